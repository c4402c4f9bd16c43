/- A part of the proof of the law FnTrianglesAreCut. -/
import Derived.Test.YtckiebdehlcjoaaTFnTrianglesAreCut11
import Derived.Test.YtckiebdehlcjoaaProg
import Derived.Below
import Derived.Deep.Draws
import Derived.Deep.AppendLies
import Derived.Maps.AppendAt
import Derived.OwnWalk
import Derived.Laws.BytesArg
import Derived.Laws.MakeOwn
import Derived.Laws.OwnMore
import Derived.Deep.OwnRows
import Derived.Tactics
import Derived.Lib.ConvBytes
import Derived.Laws.Slices
import Derived.WalkKit
import Derived.KernelRfl
import Derived.RowKit3
import Derived.Deep.LoopGhost
import Derived.Deep.QuietTactic
import Derived.BigQuiet
import Derived.WideLaws
import Derived.Deep.DeepCutAuto
import Derived.Deep.CutBlock
import Derived.Deep.RegionHeld3
import Derived.Laws.Rows
import Derived.Lib.AppendStr
import Derived.ArgAppend
import Derived.Laws.IdiomCopy
import Derived.OrdersHeld
import Derived.Laws.BitsLemmas
import Derived.RowKit
import Derived.Test.YtckiebdehlcjoaaTFnTrianglesAreCut1
import Derived.Test.YtckiebdehlcjoaaTFnTrianglesAreCut2
import Derived.Test.YtckiebdehlcjoaaTFnTrianglesAreCut3
import Derived.Test.YtckiebdehlcjoaaTFnTrianglesAreCut4
import Derived.Test.YtckiebdehlcjoaaTFnTrianglesAreCut5
import Derived.Test.YtckiebdehlcjoaaTFnTrianglesAreCut6
import Derived.Test.YtckiebdehlcjoaaTFnTrianglesAreCut7
import Derived.Test.YtckiebdehlcjoaaTFnTrianglesAreCut10
import Derived.Test.YtckiebdehlcjoaaTFnTrianglesAreCut9
namespace Go.Proofs.Ytckiebdehlcjoaa.P
open Go.Proofs.Ytckiebdehlcjoaa.Own
open Go.RowKit Go.Proofs.YtckiebdehlcjoaaW.PrintWords Go.Proofs.YtckiebdehlcjoaaW.PrintLast Go.Proofs.YtckiebdehlcjoaaW.PrintMore
attribute [local go_sem] max2_int min2_int max_two min_two max_three min_three max_four min_four   -- for this text's walks alone
set_option linter.unusedVariables false
set_option linter.unusedSimpArgs false
set_option maxHeartbeats 8000000 in
set_option maxRecDepth 100000 in
theorem laws_FnTrianglesAreCut.calls (k : Nat) (A0 : Option Addr) (c0 : Nat) (l0 : List Int) (A1 : Option Addr) (c1 : Nat) (l1 : List Int) (r : Bool) (w : World) (hr0 : Kd.C (Kd.int .u8) w A0 l0.length l0) (hc0 : l0.length ≤ c0) (hr1 : Kd.C (Kd.int .u8) w A1 l1.length l1) (hc1 : l1.length ≤ c1) (h : laws_FnTrianglesAreCut.f k l0 l1 = some r) :
    Calls Try.prog 7 #[.slice A0 l0.length c0, .slice A1 l1.length c1] w fun e w' => e = .returned (.bool r) ∧ Below w.heap.size w w' := by
  have HR0 := Aside0.mk hr0
  have HC0 := Aside0.mk hc0
  clear hr0 hc0
  have HR1 := Aside0.mk hr1
  have HC1 := Aside0.mk hc1
  clear hr1 hc1
  have HB := Aside0.mk (Below.refl w.heap.size w)
  have H : ((laws_big.f l0 l1).bind fun t290 => (if t290 = true then (some true) else ((spec_DrawPointAt.f l0).bind fun bt291 => ((impl_PointAt.f k bt291.1 bt291.2).bind fun bt293 => ((spec_PointAt.f k bt291.1 bt291.2).bind fun bt297 => ((impl_NeighboursOf.f k bt291.1 bt291.2).bind fun bt301 => ((spec_NeighboursOf.f k bt291.1 bt291.2).bind fun bt305 => ((impl_SidesOf.f k bt291.1 bt291.2).bind fun bt309 => ((spec_SidesOf.f k bt291.1 bt291.2).bind fun bt313 => (if (bt293.2 != bt297.2) = true then (none) else ((laws_uSame.f k bt293.1 bt297.1).bind fun t317 => (if t317 = true then (if (bt301.2 != bt305.2) = true then (none) else ((laws_uSame.f k bt301.1 bt305.1).bind fun t318 => (if t318 = true then (if (bt309.2 != bt313.2) = true then (none) else ((laws_uSame.f k bt309.1 bt313.1).bind fun t319 => (if t319 = true then (if (bt301.2 != bt293.2) = true then (none) else (laws_FnTrianglesAreCut.j0 k l0 l1 bt291.1 bt291.2 bt293.1 bt293.2 bt301.1 bt309.1 (bt309.2 != bt293.2))) else (none)))) else (none)))) else (none))))))))))))) = some r := h
  clear h
  replace H := Option.bind_eq_some_iff.mp H
  obtain ⟨t290, A30, H⟩ := H
  replace H : (if t290 = true then (some true) else ((spec_DrawPointAt.f l0).bind fun bt291 => ((impl_PointAt.f k bt291.1 bt291.2).bind fun bt293 => ((spec_PointAt.f k bt291.1 bt291.2).bind fun bt297 => ((impl_NeighboursOf.f k bt291.1 bt291.2).bind fun bt301 => ((spec_NeighboursOf.f k bt291.1 bt291.2).bind fun bt305 => ((impl_SidesOf.f k bt291.1 bt291.2).bind fun bt309 => ((spec_SidesOf.f k bt291.1 bt291.2).bind fun bt313 => (if (bt293.2 != bt297.2) = true then (none) else ((laws_uSame.f k bt293.1 bt297.1).bind fun t317 => (if t317 = true then (if (bt301.2 != bt305.2) = true then (none) else ((laws_uSame.f k bt301.1 bt305.1).bind fun t318 => (if t318 = true then (if (bt309.2 != bt313.2) = true then (none) else ((laws_uSame.f k bt309.1 bt313.1).bind fun t319 => (if t319 = true then (if (bt301.2 != bt293.2) = true then (none) else (laws_FnTrianglesAreCut.j0 k l0 l1 bt291.1 bt291.2 bt293.1 bt293.2 bt301.1 bt309.1 (bt309.2 != bt293.2))) else (none)))) else (none)))) else (none)))))))))))) = some r := H
  have A3 := Aside0.mk A30
  clear A30
  by_cases c4 : t290 = true
  · subst c4
    have H1 : (some true) = some r := by rw [if_pos rfl] at H; exact H
    clear H
    have H := H1
    clear H1
    obtain rfl := Option.some.inj H
    go_enter Try.func7, Try.ntmps7
    go_wp2_with (first | ((with_reducible refine gate_callee (f := 21) rfl ?_); refine goesL_ (some 62) rfl rfl Try.func21 (by kernel_rfl) rfl #[.slice A0 l0.length c0, .slice A1 l1.length c1] rfl (by (try simp only [List.map_toArray, List.map_cons, List.map_nil]); first | done | rfl | (simp only [List.length_drop, List.length_take]; rfl)) ?_; (with_reducible refine (laws_big.calls _ _ l0 _ _ l1 true _ ?side1 ?side2 ?side3 ?side4 A3.out).mono ?_); (case side1 => repeat (first | exact HR0.out | (with_reducible refine Kd.C_alloc ?_ _) | (with_reducible refine Kd.C_drewN ?_ _) | (with_reducible refine Kd.C_drew ?_))); (case side2 => exact HC0.out); (case side3 => repeat (first | exact HR1.out | (with_reducible refine Kd.C_alloc ?_ _) | (with_reducible refine Kd.C_drewN ?_ _) | (with_reducible refine Kd.C_drew ?_))); (case side4 => exact HC1.out); rintro e w' ⟨rfl, ⟨nd, rfl⟩⟩; refine ⟨_, rfl, ?_⟩))
    go_ret
    exact ⟨by first | rfl | (simp [errW_none, errW_some] <;> rfl) | (simp [*, errW_none, errW_some] <;> rfl), by repeat (first | (with_reducible first | exact HB.out | apply below_alloc | apply pw_below_drewN | apply below_drew1) | exact HB.out)⟩
  · replace c4 := Bool.eq_false_iff.mpr c4
    subst c4
    have H1 : ((spec_DrawPointAt.f l0).bind fun bt291 => ((impl_PointAt.f k bt291.1 bt291.2).bind fun bt293 => ((spec_PointAt.f k bt291.1 bt291.2).bind fun bt297 => ((impl_NeighboursOf.f k bt291.1 bt291.2).bind fun bt301 => ((spec_NeighboursOf.f k bt291.1 bt291.2).bind fun bt305 => ((impl_SidesOf.f k bt291.1 bt291.2).bind fun bt309 => ((spec_SidesOf.f k bt291.1 bt291.2).bind fun bt313 => (if (bt293.2 != bt297.2) = true then (none) else ((laws_uSame.f k bt293.1 bt297.1).bind fun t317 => (if t317 = true then (if (bt301.2 != bt305.2) = true then (none) else ((laws_uSame.f k bt301.1 bt305.1).bind fun t318 => (if t318 = true then (if (bt309.2 != bt313.2) = true then (none) else ((laws_uSame.f k bt309.1 bt313.1).bind fun t319 => (if t319 = true then (if (bt301.2 != bt293.2) = true then (none) else (laws_FnTrianglesAreCut.j0 k l0 l1 bt291.1 bt291.2 bt293.1 bt293.2 bt301.1 bt309.1 (bt309.2 != bt293.2))) else (none)))) else (none)))) else (none))))))))))) = some r := by rw [if_neg (show ¬ (false = true) by decide)] at H; exact H
    clear H
    have H := H1
    clear H1
    replace H := Option.bind_eq_some_iff.mp H
    obtain ⟨⟨t291, t292⟩, A50, H⟩ := H
    replace H : ((impl_PointAt.f k t291 t292).bind fun bt293 => ((spec_PointAt.f k t291 t292).bind fun bt297 => ((impl_NeighboursOf.f k t291 t292).bind fun bt301 => ((spec_NeighboursOf.f k t291 t292).bind fun bt305 => ((impl_SidesOf.f k t291 t292).bind fun bt309 => ((spec_SidesOf.f k t291 t292).bind fun bt313 => (if (bt293.2 != bt297.2) = true then (none) else ((laws_uSame.f k bt293.1 bt297.1).bind fun t317 => (if t317 = true then (if (bt301.2 != bt305.2) = true then (none) else ((laws_uSame.f k bt301.1 bt305.1).bind fun t318 => (if t318 = true then (if (bt309.2 != bt313.2) = true then (none) else ((laws_uSame.f k bt309.1 bt313.1).bind fun t319 => (if t319 = true then (if (bt301.2 != bt293.2) = true then (none) else (laws_FnTrianglesAreCut.j0 k l0 l1 t291 t292 bt293.1 bt293.2 bt301.1 bt309.1 (bt309.2 != bt293.2))) else (none)))) else (none)))) else (none)))))))))) = some r := H
    have A5 := Aside0.mk A50
    clear A50
    replace H := Option.bind_eq_some_iff.mp H
    obtain ⟨⟨t293, t296⟩, A60, H⟩ := H
    replace H : ((spec_PointAt.f k t291 t292).bind fun bt297 => ((impl_NeighboursOf.f k t291 t292).bind fun bt301 => ((spec_NeighboursOf.f k t291 t292).bind fun bt305 => ((impl_SidesOf.f k t291 t292).bind fun bt309 => ((spec_SidesOf.f k t291 t292).bind fun bt313 => (if (t296 != bt297.2) = true then (none) else ((laws_uSame.f k t293 bt297.1).bind fun t317 => (if t317 = true then (if (bt301.2 != bt305.2) = true then (none) else ((laws_uSame.f k bt301.1 bt305.1).bind fun t318 => (if t318 = true then (if (bt309.2 != bt313.2) = true then (none) else ((laws_uSame.f k bt309.1 bt313.1).bind fun t319 => (if t319 = true then (if (bt301.2 != t296) = true then (none) else (laws_FnTrianglesAreCut.j0 k l0 l1 t291 t292 t293 t296 bt301.1 bt309.1 (bt309.2 != t296))) else (none)))) else (none)))) else (none))))))))) = some r := H
    have A6 := Aside0.mk A60
    clear A60
    replace H := Option.bind_eq_some_iff.mp H
    obtain ⟨⟨t297, t298⟩, A70, H⟩ := H
    replace H : ((impl_NeighboursOf.f k t291 t292).bind fun bt301 => ((spec_NeighboursOf.f k t291 t292).bind fun bt305 => ((impl_SidesOf.f k t291 t292).bind fun bt309 => ((spec_SidesOf.f k t291 t292).bind fun bt313 => (if (t296 != t298) = true then (none) else ((laws_uSame.f k t293 t297).bind fun t317 => (if t317 = true then (if (bt301.2 != bt305.2) = true then (none) else ((laws_uSame.f k bt301.1 bt305.1).bind fun t318 => (if t318 = true then (if (bt309.2 != bt313.2) = true then (none) else ((laws_uSame.f k bt309.1 bt313.1).bind fun t319 => (if t319 = true then (if (bt301.2 != t296) = true then (none) else (laws_FnTrianglesAreCut.j0 k l0 l1 t291 t292 t293 t296 bt301.1 bt309.1 (bt309.2 != t296))) else (none)))) else (none)))) else (none)))))))) = some r := H
    have A7 := Aside0.mk A70
    clear A70
    replace H := Option.bind_eq_some_iff.mp H
    obtain ⟨⟨t301, t302⟩, A80, H⟩ := H
    replace H : ((spec_NeighboursOf.f k t291 t292).bind fun bt305 => ((impl_SidesOf.f k t291 t292).bind fun bt309 => ((spec_SidesOf.f k t291 t292).bind fun bt313 => (if (t296 != t298) = true then (none) else ((laws_uSame.f k t293 t297).bind fun t317 => (if t317 = true then (if (t302 != bt305.2) = true then (none) else ((laws_uSame.f k t301 bt305.1).bind fun t318 => (if t318 = true then (if (bt309.2 != bt313.2) = true then (none) else ((laws_uSame.f k bt309.1 bt313.1).bind fun t319 => (if t319 = true then (if (t302 != t296) = true then (none) else (laws_FnTrianglesAreCut.j0 k l0 l1 t291 t292 t293 t296 t301 bt309.1 (bt309.2 != t296))) else (none)))) else (none)))) else (none))))))) = some r := H
    have A8 := Aside0.mk A80
    clear A80
    replace H := Option.bind_eq_some_iff.mp H
    obtain ⟨⟨t305, t306⟩, A90, H⟩ := H
    replace H : ((impl_SidesOf.f k t291 t292).bind fun bt309 => ((spec_SidesOf.f k t291 t292).bind fun bt313 => (if (t296 != t298) = true then (none) else ((laws_uSame.f k t293 t297).bind fun t317 => (if t317 = true then (if (t302 != t306) = true then (none) else ((laws_uSame.f k t301 t305).bind fun t318 => (if t318 = true then (if (bt309.2 != bt313.2) = true then (none) else ((laws_uSame.f k bt309.1 bt313.1).bind fun t319 => (if t319 = true then (if (t302 != t296) = true then (none) else (laws_FnTrianglesAreCut.j0 k l0 l1 t291 t292 t293 t296 t301 bt309.1 (bt309.2 != t296))) else (none)))) else (none)))) else (none)))))) = some r := H
    have A9 := Aside0.mk A90
    clear A90
    replace H := Option.bind_eq_some_iff.mp H
    obtain ⟨⟨t309, t310⟩, A100, H⟩ := H
    replace H : ((spec_SidesOf.f k t291 t292).bind fun bt313 => (if (t296 != t298) = true then (none) else ((laws_uSame.f k t293 t297).bind fun t317 => (if t317 = true then (if (t302 != t306) = true then (none) else ((laws_uSame.f k t301 t305).bind fun t318 => (if t318 = true then (if (t310 != bt313.2) = true then (none) else ((laws_uSame.f k t309 bt313.1).bind fun t319 => (if t319 = true then (if (t302 != t296) = true then (none) else (laws_FnTrianglesAreCut.j0 k l0 l1 t291 t292 t293 t296 t301 t309 (t310 != t296))) else (none)))) else (none)))) else (none))))) = some r := H
    have A10 := Aside0.mk A100
    clear A100
    replace H := Option.bind_eq_some_iff.mp H
    obtain ⟨⟨t313, t314⟩, A110, H⟩ := H
    replace H : (if (t296 != t298) = true then (none) else ((laws_uSame.f k t293 t297).bind fun t317 => (if t317 = true then (if (t302 != t306) = true then (none) else ((laws_uSame.f k t301 t305).bind fun t318 => (if t318 = true then (if (t310 != t314) = true then (none) else ((laws_uSame.f k t309 t313).bind fun t319 => (if t319 = true then (if (t302 != t296) = true then (none) else (laws_FnTrianglesAreCut.j0 k l0 l1 t291 t292 t293 t296 t301 t309 (t310 != t296))) else (none)))) else (none)))) else (none)))) = some r := H
    have A11 := Aside0.mk A110
    clear A110
    have HC12 := Aside0.mk H
    clear H
    go_enter Try.func7, Try.ntmps7
    go_upto_region 10 with (first | ((with_reducible refine gate_callee (f := 21) rfl ?_); refine goesL_ (some 62) rfl rfl Try.func21 (by kernel_rfl) rfl #[.slice A0 l0.length c0, .slice A1 l1.length c1] rfl (by (try simp only [List.map_toArray, List.map_cons, List.map_nil]); first | done | rfl | (simp only [List.length_drop, List.length_take]; rfl)) ?_; (with_reducible refine (laws_big.calls _ _ l0 _ _ l1 false _ ?side1 ?side2 ?side3 ?side4 A3.out).mono ?_); (case side1 => repeat (first | exact HR0.out | (with_reducible refine Kd.C_alloc ?_ _) | (with_reducible refine Kd.C_drewN ?_ _) | (with_reducible refine Kd.C_drew ?_))); (case side2 => exact HC0.out); (case side3 => repeat (first | exact HR1.out | (with_reducible refine Kd.C_alloc ?_ _) | (with_reducible refine Kd.C_drewN ?_ _) | (with_reducible refine Kd.C_drew ?_))); (case side4 => exact HC1.out); rintro e w' ⟨rfl, ⟨nd, rfl⟩⟩; refine ⟨_, rfl, ?_⟩) | ((with_reducible refine gate_callee (f := 53) rfl ?_); refine goesL_ (some 65) rfl rfl Try.func53 (by kernel_rfl) rfl #[.slice A0 l0.length c0] rfl (by (try simp only [List.map_toArray, List.map_cons, List.map_nil]); first | done | rfl | (simp only [List.length_drop, List.length_take]; rfl)) ?_; (with_reducible refine (spec_DrawPointAt.calls _ _ l0 t291 t292 _ ?side1 ?side2 A5.out).mono ?_); (case side1 => repeat (first | exact HR0.out | (with_reducible refine Kd.C_alloc ?_ _) | (with_reducible refine Kd.C_drewN ?_ _) | (with_reducible refine Kd.C_drew ?_))); (case side2 => exact HC0.out); rintro e w13 ⟨rfl, hb⟩; refine ⟨_, rfl, ?_⟩; have n0_ := Aside0.mk (below_step (by repeat (first | (with_reducible first | exact HB.out | apply below_alloc | apply pw_below_drewN | apply below_drew1) | exact HB.out)) hb); clear HB; have HB := n0_; clear n0_; (try clear hb); (try clear hb2); (try clear hk); (try clear hi)) | ((with_reducible refine gate_callee (f := 54) rfl ?_); refine goesL_ (some 71) rfl rfl Try.func54 (by kernel_rfl) rfl #[.int .i64 t291, .int .i64 t292] rfl (by (try simp only [List.map_toArray, List.map_cons, List.map_nil]); first | done | rfl | (simp only [List.length_drop, List.length_take]; rfl)) ?_; (with_reducible refine (impl_PointAt.calls k t291 t292 t293 t296 _ A6.out).mono ?_); rintro e w14 ⟨v294, rfl, ho0, hb⟩; refine ⟨_, rfl, ?_⟩; have n0_ := Aside0.mk (Kd.V_lower (Kd.V_mono (ok' := fun k_ => True) ho0 (fun k_ hk_ => trivial)) (below_size (by repeat (first | (with_reducible first | exact HB.out | apply below_alloc | apply pw_below_drewN | apply below_drew1) | exact HB.out)))); have n1_ := Aside0.mk (below_step (by repeat (first | (with_reducible first | exact HB.out | apply below_alloc | apply pw_below_drewN | apply below_drew1) | exact HB.out)) hb); clear HB; have HO295 := n0_; have HB := n1_; clear n0_ n1_; (try clear hb); (try clear hb2); (try clear hk); (try clear hi); (try clear ho0)) | ((with_reducible refine gate_callee (f := 55) rfl ?_); refine goesL_ (some 77) rfl rfl Try.func55 (by kernel_rfl) rfl #[.int .i64 t291, .int .i64 t292] rfl (by (try simp only [List.map_toArray, List.map_cons, List.map_nil]); first | done | rfl | (simp only [List.length_drop, List.length_take]; rfl)) ?_; (with_reducible refine (spec_PointAt.calls k t291 t292 t297 t298 _ A7.out).mono ?_); rintro e w15 ⟨v299, rfl, ho0, hb⟩; refine ⟨_, rfl, ?_⟩; have n0_ := Aside0.mk (Kd.V_elder' (by (with_reducible repeat (first | apply Kd.V_alloc | apply Kd.V_drewN | apply Kd.V_drew)); exact HO295.out) (Kd.R_base ho0) hb); have n1_ := Aside0.mk (Kd.R_lower ho0 (below_size (by repeat (first | (with_reducible first | exact HB.out | apply below_alloc | apply pw_below_drewN | apply below_drew1) | exact HB.out)))); have n2_ := Aside0.mk (below_step (by repeat (first | (with_reducible first | exact HB.out | apply below_alloc | apply pw_below_drewN | apply below_drew1) | exact HB.out)) hb); clear HO295; clear HB; have HO295 := n0_; have HO300 := n1_; have HB := n2_; clear n0_ n1_ n2_; (try clear hb); (try clear hb2); (try clear hk); (try clear hi); (try clear ho0)) | ((with_reducible refine gate_callee (f := 56) rfl ?_); refine goesL_ (some 83) rfl rfl Try.func56 (by kernel_rfl) rfl #[.int .i64 t291, .int .i64 t292] rfl (by (try simp only [List.map_toArray, List.map_cons, List.map_nil]); first | done | rfl | (simp only [List.length_drop, List.length_take]; rfl)) ?_; (with_reducible refine (impl_NeighboursOf.calls k t291 t292 t301 t302 _ A8.out).mono ?_); rintro e w16 ⟨v303, rfl, ho0, hb⟩; refine ⟨_, rfl, ?_⟩; have n0_ := Aside0.mk (Kd.V_elder' (by (with_reducible repeat (first | apply Kd.V_alloc | apply Kd.V_drewN | apply Kd.V_drew)); exact HO295.out) (Kd.R_base ho0) hb); have n1_ := Aside0.mk (Kd.R_elder' (by (with_reducible repeat (first | apply Kd.R_alloc | apply Kd.R_drewN | apply Kd.R_drew)); exact HO300.out) (Kd.R_base ho0) hb); have n2_ := Aside0.mk (Kd.R_lower (Kd.R_new' ho0 (Kd.R_lt (by (with_reducible repeat (first | apply Kd.R_alloc | apply Kd.R_drewN | apply Kd.R_drew)); exact HO300.out))) (below_size (by repeat (first | (with_reducible first | exact HB.out | apply below_alloc | apply pw_below_drewN | apply below_drew1) | exact HB.out)))); have n3_ := Aside0.mk (below_step (by repeat (first | (with_reducible first | exact HB.out | apply below_alloc | apply pw_below_drewN | apply below_drew1) | exact HB.out)) hb); clear HO295; clear HO300; clear HB; have HO295 := n0_; have HO300 := n1_; have HO304 := n2_; have HB := n3_; clear n0_ n1_ n2_ n3_; (try clear hb); (try clear hb2); (try clear hk); (try clear hi); (try clear ho0)) | ((with_reducible refine gate_callee (f := 57) rfl ?_); refine goesL_ (some 89) rfl rfl Try.func57 (by kernel_rfl) rfl #[.int .i64 t291, .int .i64 t292] rfl (by (try simp only [List.map_toArray, List.map_cons, List.map_nil]); first | done | rfl | (simp only [List.length_drop, List.length_take]; rfl)) ?_; (with_reducible refine (spec_NeighboursOf.calls k t291 t292 t305 t306 _ A9.out).mono ?_); rintro e w17 ⟨v307, rfl, ho0, hb⟩; refine ⟨_, rfl, ?_⟩; have n0_ := Aside0.mk (Kd.V_elder' (by (with_reducible repeat (first | apply Kd.V_alloc | apply Kd.V_drewN | apply Kd.V_drew)); exact HO295.out) (Kd.R_base ho0) hb); have n1_ := Aside0.mk (Kd.R_elder' (by (with_reducible repeat (first | apply Kd.R_alloc | apply Kd.R_drewN | apply Kd.R_drew)); exact HO300.out) (Kd.R_base ho0) hb); have n2_ := Aside0.mk (Kd.R_elder' (by (with_reducible repeat (first | apply Kd.R_alloc | apply Kd.R_drewN | apply Kd.R_drew)); exact HO304.out) (Kd.R_base ho0) hb); have n3_ := Aside0.mk (Kd.R_lower (Kd.R_new' (Kd.R_new' ho0 (Kd.R_lt (by (with_reducible repeat (first | apply Kd.R_alloc | apply Kd.R_drewN | apply Kd.R_drew)); exact HO300.out))) (Kd.R_lt (by (with_reducible repeat (first | apply Kd.R_alloc | apply Kd.R_drewN | apply Kd.R_drew)); exact HO304.out))) (below_size (by repeat (first | (with_reducible first | exact HB.out | apply below_alloc | apply pw_below_drewN | apply below_drew1) | exact HB.out)))); have n4_ := Aside0.mk (below_step (by repeat (first | (with_reducible first | exact HB.out | apply below_alloc | apply pw_below_drewN | apply below_drew1) | exact HB.out)) hb); clear HO295; clear HO300; clear HO304; clear HB; have HO295 := n0_; have HO300 := n1_; have HO304 := n2_; have HO308 := n3_; have HB := n4_; clear n0_ n1_ n2_ n3_ n4_; (try clear hb); (try clear hb2); (try clear hk); (try clear hi); (try clear ho0)) | ((with_reducible refine gate_callee (f := 58) rfl ?_); refine goesL_ (some 95) rfl rfl Try.func58 (by kernel_rfl) rfl #[.int .i64 t291, .int .i64 t292] rfl (by (try simp only [List.map_toArray, List.map_cons, List.map_nil]); first | done | rfl | (simp only [List.length_drop, List.length_take]; rfl)) ?_; (with_reducible refine (impl_SidesOf.calls k t291 t292 t309 t310 _ A10.out).mono ?_); rintro e w18 ⟨v311, rfl, ho0, hb⟩; refine ⟨_, rfl, ?_⟩; have n0_ := Aside0.mk (Kd.V_elder' (by (with_reducible repeat (first | apply Kd.V_alloc | apply Kd.V_drewN | apply Kd.V_drew)); exact HO295.out) (Kd.R_base ho0) hb); have n1_ := Aside0.mk (Kd.R_elder' (by (with_reducible repeat (first | apply Kd.R_alloc | apply Kd.R_drewN | apply Kd.R_drew)); exact HO300.out) (Kd.R_base ho0) hb); have n2_ := Aside0.mk (Kd.R_elder' (by (with_reducible repeat (first | apply Kd.R_alloc | apply Kd.R_drewN | apply Kd.R_drew)); exact HO304.out) (Kd.R_base ho0) hb); have n3_ := Aside0.mk (Kd.R_elder' (by (with_reducible repeat (first | apply Kd.R_alloc | apply Kd.R_drewN | apply Kd.R_drew)); exact HO308.out) (Kd.R_base ho0) hb); have n4_ := Aside0.mk (Kd.R_lower (Kd.R_new' (Kd.R_new' (Kd.R_new' ho0 (Kd.R_lt (by (with_reducible repeat (first | apply Kd.R_alloc | apply Kd.R_drewN | apply Kd.R_drew)); exact HO300.out))) (Kd.R_lt (by (with_reducible repeat (first | apply Kd.R_alloc | apply Kd.R_drewN | apply Kd.R_drew)); exact HO304.out))) (Kd.R_lt (by (with_reducible repeat (first | apply Kd.R_alloc | apply Kd.R_drewN | apply Kd.R_drew)); exact HO308.out))) (below_size (by repeat (first | (with_reducible first | exact HB.out | apply below_alloc | apply pw_below_drewN | apply below_drew1) | exact HB.out)))); have n5_ := Aside0.mk (below_step (by repeat (first | (with_reducible first | exact HB.out | apply below_alloc | apply pw_below_drewN | apply below_drew1) | exact HB.out)) hb); clear HO295; clear HO300; clear HO304; clear HO308; clear HB; have HO295 := n0_; have HO300 := n1_; have HO304 := n2_; have HO308 := n3_; have HO312 := n4_; have HB := n5_; clear n0_ n1_ n2_ n3_ n4_ n5_; (try clear hb); (try clear hb2); (try clear hk); (try clear hi); (try clear ho0)) | ((with_reducible refine gate_callee (f := 59) rfl ?_); refine goesL_ (some 101) rfl rfl Try.func59 (by kernel_rfl) rfl #[.int .i64 t291, .int .i64 t292] rfl (by (try simp only [List.map_toArray, List.map_cons, List.map_nil]); first | done | rfl | (simp only [List.length_drop, List.length_take]; rfl)) ?_; (with_reducible refine (spec_SidesOf.calls k t291 t292 t313 t314 _ A11.out).mono ?_); rintro e w19 ⟨v315, rfl, ho0, hb⟩; refine ⟨_, rfl, ?_⟩; have n0_ := Aside0.mk (Kd.V_elder' (by (with_reducible repeat (first | apply Kd.V_alloc | apply Kd.V_drewN | apply Kd.V_drew)); exact HO295.out) (Kd.R_base ho0) hb); have n1_ := Aside0.mk (Kd.R_elder' (by (with_reducible repeat (first | apply Kd.R_alloc | apply Kd.R_drewN | apply Kd.R_drew)); exact HO300.out) (Kd.R_base ho0) hb); have n2_ := Aside0.mk (Kd.R_elder' (by (with_reducible repeat (first | apply Kd.R_alloc | apply Kd.R_drewN | apply Kd.R_drew)); exact HO304.out) (Kd.R_base ho0) hb); have n3_ := Aside0.mk (Kd.R_elder' (by (with_reducible repeat (first | apply Kd.R_alloc | apply Kd.R_drewN | apply Kd.R_drew)); exact HO308.out) (Kd.R_base ho0) hb); have n4_ := Aside0.mk (Kd.R_elder' (by (with_reducible repeat (first | apply Kd.R_alloc | apply Kd.R_drewN | apply Kd.R_drew)); exact HO312.out) (Kd.R_base ho0) hb); have n5_ := Aside0.mk (Kd.R_lower (Kd.R_new' (Kd.R_new' (Kd.R_new' (Kd.R_new' ho0 (Kd.R_lt (by (with_reducible repeat (first | apply Kd.R_alloc | apply Kd.R_drewN | apply Kd.R_drew)); exact HO300.out))) (Kd.R_lt (by (with_reducible repeat (first | apply Kd.R_alloc | apply Kd.R_drewN | apply Kd.R_drew)); exact HO304.out))) (Kd.R_lt (by (with_reducible repeat (first | apply Kd.R_alloc | apply Kd.R_drewN | apply Kd.R_drew)); exact HO308.out))) (Kd.R_lt (by (with_reducible repeat (first | apply Kd.R_alloc | apply Kd.R_drewN | apply Kd.R_drew)); exact HO312.out))) (below_size (by repeat (first | (with_reducible first | exact HB.out | apply below_alloc | apply pw_below_drewN | apply below_drew1) | exact HB.out)))); have n6_ := Aside0.mk (below_step (by repeat (first | (with_reducible first | exact HB.out | apply below_alloc | apply pw_below_drewN | apply below_drew1) | exact HB.out)) hb); clear HO295; clear HO300; clear HO304; clear HO308; clear HO312; clear HB; have HO295 := n0_; have HO300 := n1_; have HO304 := n2_; have HO308 := n3_; have HO312 := n4_; have HO316 := n5_; have HB := n6_; clear n0_ n1_ n2_ n3_ n4_ n5_ n6_; (try clear hb); (try clear hb2); (try clear hk); (try clear hi); (try clear ho0)))
    (try simp only [Act.put, List.setIfInBounds_toArray, List.set_cons_zero, List.set_cons_succ])
    refine wp_cutm false 59 [120, 2, 85, 2, 118] (fun u_ => (fun v144 wc => ∃ (kq : Nat) (x144_11 : Bool), v144 = .bool x144_11 ∧ Aside0 (laws_FnTrianglesAreCut.j0 kq l0 l1 t291 t292 t293 t296 t301 t309 x144_11 = some r) ∧ Aside0 (kq ≤ k) ∧ Aside0 (Kd.V (Kd.int .i64) 3 wc w.heap.size (fun k_ => some k_ ≠ (v303 : Value).ownBlock ∧ some k_ ≠ (v311 : Value).ownBlock) v294 t293) ∧ Aside0 (Kd.R (Kd.int .i64) 3 wc w.heap.size (fun k_ => some k_ ≠ (v311 : Value).ownBlock) v303 t301) ∧ Aside0 (Kd.R (Kd.int .i64) 3 wc w.heap.size (fun k_ => some k_ ≠ (v303 : Value).ownBlock) v311 t309) ∧ Aside0 (Below w.heap.size w wc)) (u_ 144)) ?rest1 ?first1
    case first1 => as_aux_lemma =>
      intro _ _ _ _
      have H := HC12.out
      clear HC12
      by_cases c20 : (t296 != t298) = true
      · rw [if_pos c20] at H
        exact absurd H (by simp)
      · rw [if_neg c20] at H
        have c20b0 : (t296 != t298) = false := by simpa using c20
        (try (have c20b1 : decide (t296 = t298) = true := by simpa using c20))
        (try (have c20b2 : (t296 == t298) = true := by simpa using c20))
        clear c20
        (first | rw [c20b0] | (simp only [i64_w, i32_w]; rw [c20b0]) | skip)
        replace H := Option.bind_eq_some_iff.mp H
        obtain ⟨t317, A210, H⟩ := H
        replace H : (if t317 = true then (if (t302 != t306) = true then (none) else ((laws_uSame.f k t301 t305).bind fun t318 => (if t318 = true then (if (t310 != t314) = true then (none) else ((laws_uSame.f k t309 t313).bind fun t319 => (if t319 = true then (if (t302 != t296) = true then (none) else (laws_FnTrianglesAreCut.j0 k l0 l1 t291 t292 t293 t296 t301 t309 (t310 != t296))) else (none)))) else (none)))) else (none)) = some r := H
        have A21 := Aside0.mk A210
        clear A210
        by_cases c22 : t317 = true
        · subst c22
          have H1 : (if (t302 != t306) = true then (none) else ((laws_uSame.f k t301 t305).bind fun t318 => (if t318 = true then (if (t310 != t314) = true then (none) else ((laws_uSame.f k t309 t313).bind fun t319 => (if t319 = true then (if (t302 != t296) = true then (none) else (laws_FnTrianglesAreCut.j0 k l0 l1 t291 t292 t293 t296 t301 t309 (t310 != t296))) else (none)))) else (none)))) = some r := by rw [if_pos rfl] at H; exact H
          clear H
          have H := H1
          clear H1
          by_cases c23 : (t302 != t306) = true
          · rw [if_pos c23] at H
            exact absurd H (by simp)
          · rw [if_neg c23] at H
            have c23b0 : (t302 != t306) = false := by simpa using c23
            (try (have c23b1 : decide (t302 = t306) = true := by simpa using c23))
            (try (have c23b2 : (t302 == t306) = true := by simpa using c23))
            clear c23
            replace H := Option.bind_eq_some_iff.mp H
            obtain ⟨t318, A240, H⟩ := H
            replace H : (if t318 = true then (if (t310 != t314) = true then (none) else ((laws_uSame.f k t309 t313).bind fun t319 => (if t319 = true then (if (t302 != t296) = true then (none) else (laws_FnTrianglesAreCut.j0 k l0 l1 t291 t292 t293 t296 t301 t309 (t310 != t296))) else (none)))) else (none)) = some r := H
            have A24 := Aside0.mk A240
            clear A240
            by_cases c25 : t318 = true
            · subst c25
              have H1 : (if (t310 != t314) = true then (none) else ((laws_uSame.f k t309 t313).bind fun t319 => (if t319 = true then (if (t302 != t296) = true then (none) else (laws_FnTrianglesAreCut.j0 k l0 l1 t291 t292 t293 t296 t301 t309 (t310 != t296))) else (none)))) = some r := by rw [if_pos rfl] at H; exact H
              clear H
              have H := H1
              clear H1
              by_cases c26 : (t310 != t314) = true
              · rw [if_pos c26] at H
                exact absurd H (by simp)
              · rw [if_neg c26] at H
                have c26b0 : (t310 != t314) = false := by simpa using c26
                (try (have c26b1 : decide (t310 = t314) = true := by simpa using c26))
                (try (have c26b2 : (t310 == t314) = true := by simpa using c26))
                clear c26
                replace H := Option.bind_eq_some_iff.mp H
                obtain ⟨t319, A270, H⟩ := H
                replace H : (if t319 = true then (if (t302 != t296) = true then (none) else (laws_FnTrianglesAreCut.j0 k l0 l1 t291 t292 t293 t296 t301 t309 (t310 != t296))) else (none)) = some r := H
                have A27 := Aside0.mk A270
                clear A270
                by_cases c28 : t319 = true
                · subst c28
                  have H1 : (if (t302 != t296) = true then (none) else (laws_FnTrianglesAreCut.j0 k l0 l1 t291 t292 t293 t296 t301 t309 (t310 != t296))) = some r := by rw [if_pos rfl] at H; exact H
                  clear H
                  have H := H1
                  clear H1
                  by_cases c29 : (t302 != t296) = true
                  · rw [if_pos c29] at H
                    exact absurd H (by simp)
                  · rw [if_neg c29] at H
                    have c29b0 : (t302 != t296) = false := by simpa using c29
                    (try (have c29b1 : decide (t302 = t296) = true := by simpa using c29))
                    (try (have c29b2 : (t302 == t296) = true := by simpa using c29))
                    clear c29
                    have H' := Aside0.mk H
                    clear H
                    obtain ⟨Ao30, co30, eo30⟩ := Kd.V_slice HO295.out
                    subst eo30
                    obtain ⟨Ao31, co31, eo31⟩ := Kd.R_slice HO300.out
                    subst eo31
                    go_wp2_with (first | (go_at_call 27; (with_reducible refine (laws_uSame.calls k _ _ t293 _ _ t297 true _ ?side1 ?side2 ?side3 ?side4 A21.out).mono ?_); (case side1 => repeat (first | exact (Kd.V_reads' HO295.out).2.2 | (with_reducible refine Kd.C_alloc ?_ _) | (with_reducible refine Kd.C_drewN ?_ _) | (with_reducible refine Kd.C_drew ?_))); (case side2 => exact (Kd.V_reads' HO295.out).2.1); (case side3 => repeat (first | exact (Kd.R_reads' HO300.out).2.2 | (with_reducible refine Kd.C_alloc ?_ _) | (with_reducible refine Kd.C_drewN ?_ _) | (with_reducible refine Kd.C_drew ?_))); (case side4 => exact (Kd.R_reads' HO300.out).2.1); rintro e w' ⟨rfl, ⟨nd, rfl⟩⟩; obtain ⟨Ao32, co32, eo32⟩ := Kd.R_slice HO304.out; subst eo32; obtain ⟨Ao33, co33, eo33⟩ := Kd.R_slice HO308.out; subst eo33) | (go_at_call 27; (with_reducible refine (laws_uSame.calls k _ _ t301 _ _ t305 true _ ?side1 ?side2 ?side3 ?side4 A24.out).mono ?_); (case side1 => repeat (first | exact (Kd.R_reads' HO304.out).2.2 | (with_reducible refine Kd.C_alloc ?_ _) | (with_reducible refine Kd.C_drewN ?_ _) | (with_reducible refine Kd.C_drew ?_))); (case side2 => exact (Kd.R_reads' HO304.out).2.1); (case side3 => repeat (first | exact (Kd.R_reads' HO308.out).2.2 | (with_reducible refine Kd.C_alloc ?_ _) | (with_reducible refine Kd.C_drewN ?_ _) | (with_reducible refine Kd.C_drew ?_))); (case side4 => exact (Kd.R_reads' HO308.out).2.1); rintro e w' ⟨rfl, ⟨nd, rfl⟩⟩; obtain ⟨Ao34, co34, eo34⟩ := Kd.R_slice HO312.out; subst eo34; obtain ⟨Ao35, co35, eo35⟩ := Kd.R_slice HO316.out; subst eo35) | (go_at_call 27; (with_reducible refine (laws_uSame.calls k _ _ t309 _ _ t313 true _ ?side1 ?side2 ?side3 ?side4 A27.out).mono ?_); (case side1 => repeat (first | exact (Kd.R_reads' HO312.out).2.2 | (with_reducible refine Kd.C_alloc ?_ _) | (with_reducible refine Kd.C_drewN ?_ _) | (with_reducible refine Kd.C_drew ?_))); (case side2 => exact (Kd.R_reads' HO312.out).2.1); (case side3 => repeat (first | exact (Kd.R_reads' HO316.out).2.2 | (with_reducible refine Kd.C_alloc ?_ _) | (with_reducible refine Kd.C_drewN ?_ _) | (with_reducible refine Kd.C_drew ?_))); (case side4 => exact (Kd.R_reads' HO316.out).2.1); rintro e w' ⟨rfl, ⟨nd, rfl⟩⟩))
                    refine Met.m (by assumption) (by kernel_rfl) ?rel
                    case rel => exact ⟨_, ((t310 != t296)), (by first | rfl | (simp; done) | (simp [*]; done) | (simp; decide) | (simp; unfold wrap64; omega)), H', ⟨by first | omega | exact Nat.le_refl _⟩, ⟨by (with_reducible repeat (first | apply Kd.V_alloc | apply Kd.V_drewN | apply Kd.V_drew)); exact Kd.V_mono HO295.out (fun _ hk => ⟨hk.1.1.1.2, hk.1.2⟩)⟩, ⟨by (with_reducible repeat (first | apply Kd.R_alloc | apply Kd.R_drewN | apply Kd.R_drew)); exact Kd.R_mono HO304.out (fun _ hk => hk.1.2)⟩, ⟨by (with_reducible repeat (first | apply Kd.R_alloc | apply Kd.R_drewN | apply Kd.R_drew)); exact Kd.R_mono HO312.out (fun _ hk => hk.1.1.2)⟩, ⟨by repeat (first | (with_reducible first | exact HB.out | apply below_alloc | apply pw_below_drewN | apply below_drew1) | exact HB.out)⟩⟩
                · replace c28 := Bool.eq_false_iff.mpr c28
                  subst c28
                  have H1 : (none) = some r := by rw [if_neg (show ¬ (false = true) by decide)] at H; exact H
                  clear H
                  have H := H1
                  clear H1
                  exact absurd H (by simp)
            · replace c25 := Bool.eq_false_iff.mpr c25
              subst c25
              have H1 : (none) = some r := by rw [if_neg (show ¬ (false = true) by decide)] at H; exact H
              clear H
              have H := H1
              clear H1
              exact absurd H (by simp)
        · replace c22 := Bool.eq_false_iff.mpr c22
          subst c22
          have H1 : (none) = some r := by rw [if_neg (show ¬ (false = true) by decide)] at H; exact H
          clear H
          have H := H1
          clear H1
          exact absurd H (by simp)
    case rest1 => as_aux_lemma =>
      intro u_ wc hcut
      dsimp only [zipR, Nat.reduceAdd]
      generalize u_ 144 = u144 at hcut ⊢
      clear HC12
      try clear c1
      try clear c2
      try clear p2
      try clear c4
      try clear c5
      try clear p6
      try clear c7
      try clear c20
      try clear c20b0
      try clear c20b1
      try clear c20b2
      try clear c21
      try clear c22
      try clear c23
      try clear c23b0
      try clear c23b1
      try clear c23b2
      try clear c25
      try clear c26
      try clear c26b0
      try clear c26b1
      try clear c26b2
      try clear c28
      try clear c29
      try clear c29b0
      try clear c29b1
      try clear c29b2
      obtain ⟨kq, x144_11, rfl, HA, HJ11, HO_7, HO_11, HO_15, HB⟩ := hcut
      cases kq with
      | zero => exact absurd HA.out (by simp [laws_FnTrianglesAreCut.j0])
      | succ kj11 =>
        have H := HA.out
        clear HA
        simp only [laws_FnTrianglesAreCut.j0] at H
        by_cases c36 : x144_11 = true
        · subst c36
          have H1 : (none) = some r := by rw [if_pos rfl] at H; exact H
          clear H
          have H := H1
          clear H1
          exact absurd H (by simp)
        · replace c36 := Bool.eq_false_iff.mpr c36
          subst c36
          have H1 : (if t296 = true then ((impl_IndexOfPoint.f kj11 t291 t293).bind fun bt320 => (if bt320.2 = true then (if bt320.1 = t292 then ((laws_uSum.f kj11 t293).bind fun t322 => (laws_FnTrianglesAreCut.j1 kj11 l0 l1 t291 t292 t301 t309 (t322 != t291))) else (none)) else (none))) else (laws_FnTrianglesAreCut.j4 kj11 l0 l1)) = some r := by rw [if_neg (show ¬ (false = true) by decide)] at H; exact H
          clear H
          have H := H1
          clear H1
          have HC37 := Aside0.mk H
          clear H
          go_upto_if 145 with (fail)
          refine wp_cutm false 3 [0, 13, 3, 0, 4, 30, 209, 2, 118] (fun u_ => (fun wc => ∃ (kq : Nat), Aside0 (laws_FnTrianglesAreCut.j4 kq l0 l1 = some r) ∧ Aside0 (kq ≤ kj11) ∧ Aside0 (Below w.heap.size w wc))) ?rest2 ?first2
          case first2 => as_aux_lemma =>
            intro _ _ _ _
            have H := HC37.out
            clear HC37
            by_cases c38 : t296 = true
            · subst c38
              have H1 : ((impl_IndexOfPoint.f kj11 t291 t293).bind fun bt320 => (if bt320.2 = true then (if bt320.1 = t292 then ((laws_uSum.f kj11 t293).bind fun t322 => (laws_FnTrianglesAreCut.j1 kj11 l0 l1 t291 t292 t301 t309 (t322 != t291))) else (none)) else (none))) = some r := by rw [if_pos rfl] at H; exact H
              clear H
              have H := H1
              clear H1
              replace H := Option.bind_eq_some_iff.mp H
              obtain ⟨⟨t320, t321⟩, A390, H⟩ := H
              replace H : (if t321 = true then (if t320 = t292 then ((laws_uSum.f kj11 t293).bind fun t322 => (laws_FnTrianglesAreCut.j1 kj11 l0 l1 t291 t292 t301 t309 (t322 != t291))) else (none)) else (none)) = some r := H
              have A39 := Aside0.mk A390
              clear A390
              have HC40 := Aside0.mk H
              clear H
              obtain ⟨Ao41, co41, eo41⟩ := Kd.V_slice HO_7.out
              subst eo41
              go_upto_region 14 with (first | ((with_reducible refine gate_callee (f := 60) rfl ?_); refine goesL_ (some 149) rfl rfl Try.func60 (by kernel_rfl) rfl #[.int .i64 t291, .slice Ao41 t293.length co41] rfl (by (try simp only [List.map_toArray, List.map_cons, List.map_nil]); first | done | rfl | (simp only [List.length_drop, List.length_take]; rfl)) ?_; (with_reducible refine (impl_IndexOfPoint.calls kj11 t291 _ _ t293 t320 t321 _ ?side1 ?side2 A39.out).mono ?_); (case side1 => repeat (first | exact (Kd.V_reads' HO_7.out).2.2 | (with_reducible refine Kd.C_alloc ?_ _) | (with_reducible refine Kd.C_drewN ?_ _) | (with_reducible refine Kd.C_drew ?_))); (case side2 => exact (Kd.V_reads' HO_7.out).2.1); rintro e w42 ⟨rfl, hb⟩; refine ⟨_, rfl, ?_⟩; have n0_ := Aside0.mk (Kd.V_below (by (with_reducible repeat (first | apply Kd.V_alloc | apply Kd.V_drewN | apply Kd.V_drew)); exact HO_7.out) hb); have n1_ := Aside0.mk (Kd.R_below (by (with_reducible repeat (first | apply Kd.R_alloc | apply Kd.R_drewN | apply Kd.R_drew)); exact HO_11.out) hb); have n2_ := Aside0.mk (Kd.R_below (by (with_reducible repeat (first | apply Kd.R_alloc | apply Kd.R_drewN | apply Kd.R_drew)); exact HO_15.out) hb); have n3_ := Aside0.mk (below_step (by repeat (first | (with_reducible first | exact HB.out | apply below_alloc | apply pw_below_drewN | apply below_drew1) | exact HB.out)) hb); clear HO_7; clear HO_11; clear HO_15; clear HB; have HO_7 := n0_; have HO_11 := n1_; have HO_15 := n2_; have HB := n3_; clear n0_ n1_ n2_ n3_; (try clear hb); (try clear hb2); (try clear hk); (try clear hi)))
              (try simp only [Act.put, List.setIfInBounds_toArray, List.set_cons_zero, List.set_cons_succ])
              refine wp_cutm false 59 [120, 2, 85, 2, 118] (fun u_ => (fun v164 wc => ∃ (kq : Nat) (x164_39 : Bool), v164 = .bool x164_39 ∧ Aside0 (laws_FnTrianglesAreCut.j1 kq l0 l1 t291 t292 t301 t309 x164_39 = some r) ∧ Aside0 (kq ≤ kj11) ∧ Aside0 (Kd.R (Kd.int .i64) 3 wc w.heap.size (fun k_ => some k_ ≠ (v311 : Value).ownBlock) v303 t301) ∧ Aside0 (Kd.R (Kd.int .i64) 3 wc w.heap.size (fun k_ => some k_ ≠ (v303 : Value).ownBlock) v311 t309) ∧ Aside0 (Below w.heap.size w wc)) (u_ 164)) ?rest3 ?first3
              case first3 => as_aux_lemma =>
                intro _ _ _ _
                have H := HC40.out
                clear HC40
                by_cases c43 : t321 = true
                · subst c43
                  have H1 : (if t320 = t292 then ((laws_uSum.f kj11 t293).bind fun t322 => (laws_FnTrianglesAreCut.j1 kj11 l0 l1 t291 t292 t301 t309 (t322 != t291))) else (none)) = some r := by rw [if_pos rfl] at H; exact H
                  clear H
                  have H := H1
                  clear H1
                  by_cases c44 : t320 = t292
                  · rw [if_pos c44] at H
                    have c44b0 : (t320 == t292) = true := beq_iff_eq.mpr c44
                    have c44b1 : (t320 != t292) = false := bne_eq_false_iff_eq.mpr c44
                    clear c44
                    (first | rw [c44b0] | (simp only [i64_w, i32_w]; rw [c44b0]) | skip)
                    replace H := Option.bind_eq_some_iff.mp H
                    obtain ⟨t322, A450, H⟩ := H
                    replace H : (laws_FnTrianglesAreCut.j1 kj11 l0 l1 t291 t292 t301 t309 (t322 != t291)) = some r := H
                    have A45 := Aside0.mk A450
                    clear A450
                    have H' := Aside0.mk H
                    clear H
                    go_wp2_with (first | (go_at_call 61; (with_reducible refine (laws_uSum.calls kj11 _ _ t293 t322 _ ?side1 ?side2 A45.out).mono ?_); (case side1 => repeat (first | exact (Kd.V_reads' HO_7.out).2.2 | (with_reducible refine Kd.C_alloc ?_ _) | (with_reducible refine Kd.C_drewN ?_ _) | (with_reducible refine Kd.C_drew ?_))); (case side2 => exact (Kd.V_reads' HO_7.out).2.1); rintro e w' ⟨rfl, ⟨nd, rfl⟩⟩))
                    refine Met.m (by assumption) (by kernel_rfl) ?rel
                    case rel => exact ⟨_, ((t322 != t291)), (by first | rfl | (simp; done) | (simp [*]; done) | (simp; decide) | (simp; unfold wrap64; omega)), H', ⟨by have := HJ11.out; first | omega | exact Nat.le_refl _⟩, ⟨by (with_reducible repeat (first | apply Kd.R_alloc | apply Kd.R_drewN | apply Kd.R_drew)); exact HO_11.out⟩, ⟨by (with_reducible repeat (first | apply Kd.R_alloc | apply Kd.R_drewN | apply Kd.R_drew)); exact HO_15.out⟩, ⟨by repeat (first | (with_reducible first | exact HB.out | apply below_alloc | apply pw_below_drewN | apply below_drew1) | exact HB.out)⟩⟩
                  · rw [if_neg c44] at H
                    exact absurd H (by simp)
                · replace c43 := Bool.eq_false_iff.mpr c43
                  subst c43
                  have H1 : (none) = some r := by rw [if_neg (show ¬ (false = true) by decide)] at H; exact H
                  clear H
                  have H := H1
                  clear H1
                  exact absurd H (by simp)
              case rest3 => as_aux_lemma =>
                intro u_ wc hcut
                dsimp only [zipR, Nat.reduceAdd]
                generalize u_ 164 = u164 at hcut ⊢
                clear HC40
                try clear c1
                try clear c2
                try clear p2
                try clear c3
                try clear c4
                try clear c5
                try clear c6
                try clear p6
                try clear c7
                try clear c20
                try clear c20b0
                try clear c20b1
                try clear c20b2
                try clear c21
                try clear c22
                try clear c23
                try clear c23b0
                try clear c23b1
                try clear c23b2
                try clear c25
                try clear c26
                try clear c26b0
                try clear c26b1
                try clear c26b2
                try clear c28
                try clear c29
                try clear c29b0
                try clear c29b1
                try clear c29b2
                try clear c36
                try clear c38
                try clear c43
                try clear c44
                try clear c44b0
                try clear c44b1
                try clear p2
                try clear p6
                obtain ⟨kq, x164_39, rfl, HA, HJ39, HO_11, HO_15, HB⟩ := hcut
                cases kq with
                | zero => exact absurd HA.out (by simp [laws_FnTrianglesAreCut.j1])
                | succ kj39 =>
                  have H := HA.out
                  clear HA
                  simp only [laws_FnTrianglesAreCut.j1] at H
                  by_cases c46 : x164_39 = true
                  · subst c46
                    have H1 : (none) = some r := by rw [if_pos rfl] at H; exact H
                    clear H
                    have H := H1
                    clear H1
                    exact absurd H (by simp)
                  · replace c46 := Bool.eq_false_iff.mpr c46
                    subst c46
                    have H1 : ((impl_BorderOf.f kj39 t291).bind fun bt323 => (if bt323.2 = true then ((laws_uHas.f kj39 bt323.1 t292).bind fun t327 => (laws_FnTrianglesAreCut.j2 kj39 l0 l1 t291 t292 t301 (t327 != (decide ((t309.length : Int) > 0))))) else (none))) = some r := by rw [if_neg (show ¬ (false = true) by decide)] at H; exact H
                    clear H
                    have H := H1
                    clear H1
                    replace H := Option.bind_eq_some_iff.mp H
                    obtain ⟨⟨t323, t324⟩, A470, H⟩ := H
                    replace H : (if t324 = true then ((laws_uHas.f kj39 t323 t292).bind fun t327 => (laws_FnTrianglesAreCut.j2 kj39 l0 l1 t291 t292 t301 (t327 != (decide ((t309.length : Int) > 0))))) else (none)) = some r := H
                    have A47 := Aside0.mk A470
                    clear A470
                    have HC48 := Aside0.mk H
                    clear H
                    go_upto_region 17 with (first | ((with_reducible refine gate_callee (f := 62) rfl ?_); refine goesL_ (some 167) rfl rfl Try.func62 (by kernel_rfl) rfl #[.int .i64 t291] rfl (by (try simp only [List.map_toArray, List.map_cons, List.map_nil]); first | done | rfl | (simp only [List.length_drop, List.length_take]; rfl)) ?_; (with_reducible refine (impl_BorderOf.calls kj39 t291 t323 t324 _ A47.out).mono ?_); rintro e w49 ⟨v325, rfl, ho0, hb⟩; refine ⟨_, rfl, ?_⟩; have n0_ := Aside0.mk (Kd.R_elder' (by (with_reducible repeat (first | apply Kd.R_alloc | apply Kd.R_drewN | apply Kd.R_drew)); exact HO_11.out) (Kd.R_base ho0) hb); have n1_ := Aside0.mk (Kd.R_elder' (by (with_reducible repeat (first | apply Kd.R_alloc | apply Kd.R_drewN | apply Kd.R_drew)); exact HO_15.out) (Kd.R_base ho0) hb); have n2_ := Aside0.mk (Kd.R_lower (Kd.R_new' (Kd.R_new' ho0 (Kd.R_lt (by (with_reducible repeat (first | apply Kd.R_alloc | apply Kd.R_drewN | apply Kd.R_drew)); exact HO_11.out))) (Kd.R_lt (by (with_reducible repeat (first | apply Kd.R_alloc | apply Kd.R_drewN | apply Kd.R_drew)); exact HO_15.out))) (below_size (by repeat (first | (with_reducible first | exact HB.out | apply below_alloc | apply pw_below_drewN | apply below_drew1) | exact HB.out)))); have n3_ := Aside0.mk (below_step (by repeat (first | (with_reducible first | exact HB.out | apply below_alloc | apply pw_below_drewN | apply below_drew1) | exact HB.out)) hb); clear HO_11; clear HO_15; clear HB; have HO_11 := n0_; have HO_15 := n1_; have HO326 := n2_; have HB := n3_; clear n0_ n1_ n2_ n3_; (try clear hb); (try clear hb2); (try clear hk); (try clear hi); (try clear ho0)))
                    (try simp only [Act.put, List.setIfInBounds_toArray, List.set_cons_zero, List.set_cons_succ])
                    refine wp_cutm false 59 [120, 2, 85, 2, 118] (fun u_ => (fun v180 wc => ∃ (kq : Nat) (x180_47 : Bool), v180 = .bool x180_47 ∧ Aside0 (laws_FnTrianglesAreCut.j2 kq l0 l1 t291 t292 t301 x180_47 = some r) ∧ Aside0 (kq ≤ kj39) ∧ Aside0 (Kd.R (Kd.int .i64) 3 wc w.heap.size (fun _ => True) v303 t301) ∧ Aside0 (Below w.heap.size w wc)) (u_ 180)) ?rest4 ?first4
                    case first4 => as_aux_lemma =>
                      intro _ _ _ _
                      have H := HC48.out
                      clear HC48
                      by_cases c50 : t324 = true
                      · subst c50
                        have H1 : ((laws_uHas.f kj39 t323 t292).bind fun t327 => (laws_FnTrianglesAreCut.j2 kj39 l0 l1 t291 t292 t301 (t327 != (decide ((t309.length : Int) > 0))))) = some r := by rw [if_pos rfl] at H; exact H
                        clear H
                        have H := H1
                        clear H1
                        replace H := Option.bind_eq_some_iff.mp H
                        obtain ⟨t327, A510, H⟩ := H
                        replace H : (laws_FnTrianglesAreCut.j2 kj39 l0 l1 t291 t292 t301 (t327 != (decide ((t309.length : Int) > 0)))) = some r := H
                        have A51 := Aside0.mk A510
                        clear A510
                        have H' := Aside0.mk H
                        clear H
                        obtain ⟨Ao52, co52, eo52⟩ := Kd.R_slice HO326.out
                        subst eo52
                        go_wp2_with (first | (go_at_call 63; (with_reducible refine (laws_uHas.calls kj39 _ _ t323 t292 t327 _ ?side1 ?side2 A51.out).mono ?_); (case side1 => repeat (first | exact (Kd.R_reads' HO326.out).2.2 | (with_reducible refine Kd.C_alloc ?_ _) | (with_reducible refine Kd.C_drewN ?_ _) | (with_reducible refine Kd.C_drew ?_))); (case side2 => exact (Kd.R_reads' HO326.out).2.1); rintro e w' ⟨rfl, ⟨nd, rfl⟩⟩; obtain ⟨Ao53, co53, eo53⟩ := Kd.R_slice HO_15.out; subst eo53))
                        refine Met.m (by assumption) (by kernel_rfl) ?rel
                        case rel => exact ⟨_, ((t327 != (decide ((t309.length : Int) > 0)))), (by first | rfl | (simp; done) | (simp [*]; done) | (simp; decide) | (simp; unfold wrap64; omega) | (simp [bne]; done)), H', ⟨by have := HJ11.out; have := HJ39.out; first | omega | exact Nat.le_refl _⟩, ⟨by (with_reducible repeat (first | apply Kd.R_alloc | apply Kd.R_drewN | apply Kd.R_drew)); exact Kd.R_mono HO_11.out (fun _ hk => trivial)⟩, ⟨by repeat (first | (with_reducible first | exact HB.out | apply below_alloc | apply pw_below_drewN | apply below_drew1) | exact HB.out)⟩⟩
                      · replace c50 := Bool.eq_false_iff.mpr c50
                        subst c50
                        have H1 : (none) = some r := by rw [if_neg (show ¬ (false = true) by decide)] at H; exact H
                        clear H
                        have H := H1
                        clear H1
                        exact absurd H (by simp)
                    case rest4 => as_aux_lemma =>
                      intro u_ wc hcut
                      dsimp only [zipR, Nat.reduceAdd]
                      generalize u_ 180 = u180 at hcut ⊢
                      clear HC48
                      try clear c1
                      try clear c2
                      try clear p2
                      try clear c3
                      try clear c4
                      try clear c5
                      try clear c6
                      try clear p6
                      try clear c7
                      try clear c20
                      try clear c20b0
                      try clear c20b1
                      try clear c20b2
                      try clear c21
                      try clear c22
                      try clear c23
                      try clear c23b0
                      try clear c23b1
                      try clear c23b2
                      try clear c25
                      try clear c26
                      try clear c26b0
                      try clear c26b1
                      try clear c26b2
                      try clear c28
                      try clear c29
                      try clear c29b0
                      try clear c29b1
                      try clear c29b2
                      try clear c36
                      try clear c38
                      try clear c43
                      try clear c44
                      try clear c44b0
                      try clear c44b1
                      try clear c46
                      try clear c50
                      try clear c53
                      try clear p2
                      try clear p6
                      obtain ⟨kq, x180_47, rfl, HA, HJ47, HO_11, HB⟩ := hcut
                      cases kq with
                      | zero => exact absurd HA.out (by simp [laws_FnTrianglesAreCut.j2])
                      | succ kj47 =>
                        have H := HA.out
                        clear HA
                        simp only [laws_FnTrianglesAreCut.j2] at H
                        by_cases c54 : x180_47 = true
                        · subst c54
                          have H1 : (none) = some r := by rw [if_pos rfl] at H; exact H
                          clear H
                          have H := H1
                          clear H1
                          exact absurd H (by simp)
                        · replace c54 := Bool.eq_false_iff.mpr c54
                          subst c54
                          have H1 : (laws_FnTrianglesAreCut.l0 kj47 l0 l1 t291 t292 t301 (t301.length : Int) 0) = some r := by rw [if_neg (show ¬ (false = true) by decide)] at H; exact H
                          clear H
                          have H := H1
                          clear H1
                          have H' := Aside0.mk H
                          clear H
                          obtain ⟨Ao55, co55, eo55⟩ := Kd.R_slice HO_11.out
                          subst eo55
                          go_wp2
                          go_loopg [183] kj47 (fun kq v183 w' => ∃ (x183_4 : Int), v183 = .int .i64 x183_4 ∧ Aside0 (laws_FnTrianglesAreCut.l0 kq l0 l1 t291 t292 t301 (t301.length : Int) x183_4 = some r) ∧ Aside0 (kq ≤ kj47) ∧ Aside0 (Kd.R (Kd.int .i64) 3 w' w.heap.size (fun _ => True) (.slice Ao55 t301.length co55) t301) ∧ Aside0 (Below w.heap.size w w'))
                          case atStart => exact ⟨(0), (by first | rfl | (simp; done) | (simp [*]; done) | (simp; decide) | (simp; unfold wrap64; omega)), H', ⟨Nat.le_refl _⟩, ⟨by (with_reducible repeat (first | apply Kd.R_alloc | apply Kd.R_drewN | apply Kd.R_drew)); exact HO_11.out⟩, ⟨by repeat (first | (with_reducible first | exact HB.out | apply below_alloc | apply pw_below_drewN | apply below_drew1) | exact HB.out)⟩⟩
                          case round => as_aux_lemma =>
                            clear H'
                            try clear c1
                            try clear c2
                            try clear p2
                            try clear c3
                            try clear c4
                            try clear c5
                            try clear c6
                            try clear p6
                            try clear c7
                            try clear c20
                            try clear c20b0
                            try clear c20b1
                            try clear c20b2
                            try clear c21
                            try clear c22
                            try clear c23
                            try clear c23b0
                            try clear c23b1
                            try clear c23b2
                            try clear c25
                            try clear c26
                            try clear c26b0
                            try clear c26b1
                            try clear c26b2
                            try clear c28
                            try clear c29
                            try clear c29b0
                            try clear c29b1
                            try clear c29b2
                            try clear c36
                            try clear c38
                            try clear c43
                            try clear c44
                            try clear c44b0
                            try clear c44b1
                            try clear c46
                            try clear c50
                            try clear c53
                            try clear c54
                            try clear c55
                            try clear p2
                            try clear p6
                            obtain ⟨x183_4, rfl, HA, HK4, HO_181, HB⟩ := hrel
                            cases gk with
                            | zero => exact absurd HA.out (by simp [laws_FnTrianglesAreCut.l0])
                            | succ k4 =>
                              have H := HA.out
                              clear HA
                              simp only [laws_FnTrianglesAreCut.l0] at H
                              by_cases c56 : x183_4 < (t301.length : Int)
                              · rw [if_pos c56] at H
                                have c56b0 : decide (x183_4 < (t301.length : Int)) = true := decide_eq_true c56
                                clear c56
                                by_cases c57 : 0 ≤ x183_4
                                · rw [if_pos c57] at H
                                  have c57b0 : decide (0 ≤ x183_4) = true := decide_eq_true c57
                                  clear c57
                                  by_cases c58 : x183_4 < (t301.length : Int)
                                  · rw [if_pos c58] at H
                                    have c58b0 : decide (x183_4 < (t301.length : Int)) = true := decide_eq_true c58
                                    clear c58
                                    replace H := Option.bind_eq_some_iff.mp H
                                    obtain ⟨⟨t329, t330⟩, A590, H⟩ := H
                                    replace H : ((impl_CellsWith.f k4 t291 t292 (rd t301 x183_4)).bind fun bt333 => (if t330 = true then ((laws_uHas.f k4 t329 t292).bind fun t337 => (if t337 = true then (if bt333.2 = true then (if (bt333.1.length : Int) < 1 then (none) else (if (bt333.1.length : Int) > 2 then (none) else (laws_FnTrianglesAreCut.l0 k4 l0 l1 t291 t292 t301 (t301.length : Int) (wrap64 (x183_4 + 1))))) else (none)) else (none))) else (none))) = some r := H
                                    have A59 := Aside0.mk A590
                                    clear A590
                                    replace H := Option.bind_eq_some_iff.mp H
                                    obtain ⟨⟨t333, t334⟩, A600, H⟩ := H
                                    replace H : (if t330 = true then ((laws_uHas.f k4 t329 t292).bind fun t337 => (if t337 = true then (if t334 = true then (if (t333.length : Int) < 1 then (none) else (if (t333.length : Int) > 2 then (none) else (laws_FnTrianglesAreCut.l0 k4 l0 l1 t291 t292 t301 (t301.length : Int) (wrap64 (x183_4 + 1))))) else (none)) else (none))) else (none)) = some r := H
                                    have A60 := Aside0.mk A600
                                    clear A600
                                    by_cases c61 : t330 = true
                                    · subst c61
                                      have H1 : ((laws_uHas.f k4 t329 t292).bind fun t337 => (if t337 = true then (if t334 = true then (if (t333.length : Int) < 1 then (none) else (if (t333.length : Int) > 2 then (none) else (laws_FnTrianglesAreCut.l0 k4 l0 l1 t291 t292 t301 (t301.length : Int) (wrap64 (x183_4 + 1))))) else (none)) else (none))) = some r := by rw [if_pos rfl] at H; exact H
                                      clear H
                                      have H := H1
                                      clear H1
                                      replace H := Option.bind_eq_some_iff.mp H
                                      obtain ⟨t337, A620, H⟩ := H
                                      replace H : (if t337 = true then (if t334 = true then (if (t333.length : Int) < 1 then (none) else (if (t333.length : Int) > 2 then (none) else (laws_FnTrianglesAreCut.l0 k4 l0 l1 t291 t292 t301 (t301.length : Int) (wrap64 (x183_4 + 1))))) else (none)) else (none)) = some r := H
                                      have A62 := Aside0.mk A620
                                      clear A620
                                      by_cases c63 : t337 = true
                                      · subst c63
                                        have H1 : (if t334 = true then (if (t333.length : Int) < 1 then (none) else (if (t333.length : Int) > 2 then (none) else (laws_FnTrianglesAreCut.l0 k4 l0 l1 t291 t292 t301 (t301.length : Int) (wrap64 (x183_4 + 1))))) else (none)) = some r := by rw [if_pos rfl] at H; exact H
                                        clear H
                                        have H := H1
                                        clear H1
                                        by_cases c64 : t334 = true
                                        · subst c64
                                          have H1 : (if (t333.length : Int) < 1 then (none) else (if (t333.length : Int) > 2 then (none) else (laws_FnTrianglesAreCut.l0 k4 l0 l1 t291 t292 t301 (t301.length : Int) (wrap64 (x183_4 + 1))))) = some r := by rw [if_pos rfl] at H; exact H
                                          clear H
                                          have H := H1
                                          clear H1
                                          by_cases c65 : (t333.length : Int) < 1
                                          · rw [if_pos c65] at H
                                            exact absurd H (by simp)
                                          · rw [if_neg c65] at H
                                            have c65b0 : decide ((t333.length : Int) < 1) = false := decide_eq_false c65
                                            have c65b1 : decide (t333.length < 1) = false := decide_eq_false (by omega)
                                            clear c65
                                            by_cases c66 : (t333.length : Int) > 2
                                            · rw [if_pos c66] at H
                                              exact absurd H (by simp)
                                            · rw [if_neg c66] at H
                                              have c66b0 : decide (2 < (t333.length : Int)) = false := decide_eq_false c66
                                              have c66b1 : decide (2 < t333.length) = false := decide_eq_false (by omega)
                                              clear c66
                                              have H' := Aside0.mk H
                                              clear H
                                              have p328 : 0 ≤ (x183_4 : Int) := of_decide_eq_true (by first | (with_reducible assumption) | assumption)
                                              have q328 : x183_4 < (t301.length : Int) := of_decide_eq_true (by first | (with_reducible assumption) | assumption)
                                              obtain ⟨ad328, e328, hx328_0⟩ := Kd.at_int (Kd.R_reads' HO_181.out).2.2 x183_4 p328 q328
                                              cases e328
                                              replace p328 := eq_true p328
                                              replace q328 := eq_true q328
                                              go_wp2_with (first | ((with_reducible refine gate_callee (f := 56) rfl ?_); refine goesL_ (some 190) rfl rfl Try.func56 (by kernel_rfl) rfl #[.int .i64 t291, .int .i64 (rd t301 x183_4)] rfl (by (try simp only [List.map_toArray, List.map_cons, List.map_nil]); first | done | rfl | (simp only [List.length_drop, List.length_take]; rfl)) ?_; (with_reducible refine (impl_NeighboursOf.calls k4 t291 (rd t301 x183_4) t329 true _ A59.out).mono ?_); rintro e w67 ⟨v331, rfl, ho0, hb⟩; refine ⟨_, rfl, ?_⟩; have n0_ := Aside0.mk (Kd.R_elder' (by (with_reducible repeat (first | apply Kd.R_alloc | apply Kd.R_drewN | apply Kd.R_drew)); exact HO_181.out) (Kd.R_base ho0) hb); have n1_ := Aside0.mk (Kd.R_lower (Kd.R_new' ho0 (Kd.R_lt (by (with_reducible repeat (first | apply Kd.R_alloc | apply Kd.R_drewN | apply Kd.R_drew)); exact HO_181.out))) (below_size (by repeat (first | (with_reducible first | exact HB.out | apply below_alloc | apply pw_below_drewN | apply below_drew1) | exact HB.out)))); have n2_ := Aside0.mk (below_step (by repeat (first | (with_reducible first | exact HB.out | apply below_alloc | apply pw_below_drewN | apply below_drew1) | exact HB.out)) hb); clear HO_181; clear HB; have HO_181 := n0_; have HO332 := n1_; have HB := n2_; clear n0_ n1_ n2_; (try clear hb); (try clear hb2); (try clear hk); (try clear hi); (try clear ho0)) | ((with_reducible refine gate_callee (f := 64) rfl ?_); refine goesL_ (some 197) rfl rfl Try.func64 (by kernel_rfl) rfl #[.int .i64 t291, .int .i64 t292, .int .i64 (rd t301 x183_4)] rfl (by (try simp only [List.map_toArray, List.map_cons, List.map_nil]); first | done | rfl | (simp only [List.length_drop, List.length_take]; rfl)) ?_; (with_reducible refine (impl_CellsWith.calls k4 t291 t292 (rd t301 x183_4) t333 true _ A60.out).mono ?_); rintro e w68 ⟨v335, rfl, ho0, hb⟩; refine ⟨_, rfl, ?_⟩; have n0_ := Aside0.mk (Kd.R_elder' (by (with_reducible repeat (first | apply Kd.R_alloc | apply Kd.R_drewN | apply Kd.R_drew)); exact HO_181.out) (Kd.R_base ho0) hb); have n1_ := Aside0.mk (Kd.R_elder' (by (with_reducible repeat (first | apply Kd.R_alloc | apply Kd.R_drewN | apply Kd.R_drew)); exact HO332.out) (Kd.R_base ho0) hb); have n2_ := Aside0.mk (Kd.R_lower (Kd.R_new' (Kd.R_new' ho0 (Kd.R_lt (by (with_reducible repeat (first | apply Kd.R_alloc | apply Kd.R_drewN | apply Kd.R_drew)); exact HO_181.out))) (Kd.R_lt (by (with_reducible repeat (first | apply Kd.R_alloc | apply Kd.R_drewN | apply Kd.R_drew)); exact HO332.out))) (below_size (by repeat (first | (with_reducible first | exact HB.out | apply below_alloc | apply pw_below_drewN | apply below_drew1) | exact HB.out)))); have n3_ := Aside0.mk (below_step (by repeat (first | (with_reducible first | exact HB.out | apply below_alloc | apply pw_below_drewN | apply below_drew1) | exact HB.out)) hb); clear HO_181; clear HO332; clear HB; have HO_181 := n0_; have HO332 := n1_; have HO336 := n2_; have HB := n3_; clear n0_ n1_ n2_ n3_; (try clear hb); (try clear hb2); (try clear hk); (try clear hi); (try clear ho0); obtain ⟨Ao69, co69, eo69⟩ := Kd.R_slice HO332.out; subst eo69) | (go_at_call 63; (with_reducible refine (laws_uHas.calls k4 _ _ t329 t292 true _ ?side1 ?side2 A62.out).mono ?_); (case side1 => repeat (first | exact (Kd.R_reads' HO332.out).2.2 | (with_reducible refine Kd.C_alloc ?_ _) | (with_reducible refine Kd.C_drewN ?_ _) | (with_reducible refine Kd.C_drew ?_))); (case side2 => exact (Kd.R_reads' HO332.out).2.1); rintro e w' ⟨rfl, ⟨nd, rfl⟩⟩; obtain ⟨Ao70, co70, eo70⟩ := Kd.R_slice HO336.out; subst eo70))
                                              go_roundg k4
                                              case measure => have := HJ11.out; have := HJ39.out; have := HJ47.out; have := HK4.out; omega
                                              case rel => exact ⟨(wrap64 (x183_4 + 1)), (by first | rfl | (simp; done) | (simp [*]; done) | (simp; decide) | (simp; unfold wrap64; omega)), H', ⟨by have := HJ11.out; have := HJ39.out; have := HJ47.out; have := HK4.out; omega⟩, ⟨by (with_reducible repeat (first | apply Kd.R_alloc | apply Kd.R_drewN | apply Kd.R_drew)); exact Kd.R_mono HO_181.out (fun _ hk => trivial)⟩, ⟨by repeat (first | (with_reducible first | exact HB.out | apply below_alloc | apply pw_below_drewN | apply below_drew1) | exact HB.out)⟩⟩
                                        · replace c64 := Bool.eq_false_iff.mpr c64
                                          subst c64
                                          have H1 : (none) = some r := by rw [if_neg (show ¬ (false = true) by decide)] at H; exact H
                                          clear H
                                          have H := H1
                                          clear H1
                                          exact absurd H (by simp)
                                      · replace c63 := Bool.eq_false_iff.mpr c63
                                        subst c63
                                        have H1 : (none) = some r := by rw [if_neg (show ¬ (false = true) by decide)] at H; exact H
                                        clear H
                                        have H := H1
                                        clear H1
                                        exact absurd H (by simp)
                                    · replace c61 := Bool.eq_false_iff.mpr c61
                                      subst c61
                                      have H1 : (none) = some r := by rw [if_neg (show ¬ (false = true) by decide)] at H; exact H
                                      clear H
                                      have H := H1
                                      clear H1
                                      exact absurd H (by simp)
                                  · rw [if_neg c58] at H
                                    exact absurd H (by simp)
                                · rw [if_neg c57] at H
                                  exact absurd H (by simp)
                              · rw [if_neg c56] at H
                                have c56b0 : decide (x183_4 < (t301.length : Int)) = false := decide_eq_false c56
                                clear c56
                                have H' := Aside0.mk H
                                clear H
                                go_wp2
                                refine Met.m (by assumption) (by kernel_rfl) ?rel
                                case rel => exact ⟨_, H', ⟨by have := HJ11.out; have := HJ39.out; have := HJ47.out; have := HK4.out; first | omega | exact Nat.le_refl _⟩, ⟨by repeat (first | (with_reducible first | exact HB.out | apply below_alloc | apply pw_below_drewN | apply below_drew1) | exact HB.out)⟩⟩
            · replace c38 := Bool.eq_false_iff.mpr c38
              subst c38
              have H1 : (laws_FnTrianglesAreCut.j4 kj11 l0 l1) = some r := by rw [if_neg (show ¬ (false = true) by decide)] at H; exact H
              clear H
              have H := H1
              clear H1
              have H' := Aside0.mk H
              clear H
              go_wp2
              refine Met.m (by assumption) (by kernel_rfl) ?rel
              case rel => exact ⟨_, H', ⟨by have := HJ11.out; first | omega | exact Nat.le_refl _⟩, ⟨by repeat (first | (with_reducible first | exact HB.out | apply below_alloc | apply pw_below_drewN | apply below_drew1) | exact HB.out)⟩⟩
          case rest2 => as_aux_lemma =>
            intro u_ wc hcut
            dsimp only [zipR, Nat.reduceAdd]
            clear HC37
            try clear c1
            try clear c2
            try clear p2
            try clear c3
            try clear p3
            try clear q3
            try clear hx3
            try clear c4
            try clear c5
            try clear c6
            try clear p6
            try clear c7
            try clear c20
            try clear c20b0
            try clear c20b1
            try clear c20b2
            try clear c21
            try clear c22
            try clear c23
            try clear c23b0
            try clear c23b1
            try clear c23b2
            try clear c25
            try clear c26
            try clear c26b0
            try clear c26b1
            try clear c26b2
            try clear c28
            try clear c29
            try clear c29b0
            try clear c29b1
            try clear c29b2
            try clear p32
            try clear q32
            try clear hx32
            try clear c36
            try clear c38
            try clear c43
            try clear c44
            try clear c44b0
            try clear c44b1
            try clear c46
            try clear c50
            try clear c53
            try clear c54
            try clear c55
            try clear c56
            try clear c56b0
            try clear c57
            try clear c57b0
            try clear c58
            try clear c58b0
            try clear c59
            try clear c60
            try clear c61
            try clear c62
            try clear c63
            try clear c64
            try clear p64
            try clear c65
            try clear c65b0
            try clear c65b1
            try clear c66
            try clear c66b0
            try clear c66b1
            try clear hx328_0
            try clear p2
            try clear p328
            try clear p6
            try clear q328
            obtain ⟨kq, HA, HJ36, HB⟩ := hcut
            cases kq with
            | zero => exact absurd HA.out (by simp [laws_FnTrianglesAreCut.j4])
            | succ kj36 =>
              have H := HA.out
              clear HA
              simp only [laws_FnTrianglesAreCut.j4] at H
              replace H := Option.bind_eq_some_iff.mp H
              obtain ⟨⟨t338, t339⟩, A710, H⟩ := H
              replace H : ((impl_IndexOfPoint.f kj36 t338 t339).bind fun bt342 => ((spec_IndexOfPoint.f kj36 t338 t339).bind fun bt344 => (if (bt342.2 != bt344.2) = true then (none) else (laws_FnTrianglesAreCut.j5 kj36 l0 l1 (bt342.1 != bt344.1))))) = some r := H
              have A71 := Aside0.mk A710
              clear A710
              replace H := Option.bind_eq_some_iff.mp H
              obtain ⟨⟨t342, t343⟩, A720, H⟩ := H
              replace H : ((spec_IndexOfPoint.f kj36 t338 t339).bind fun bt344 => (if (t343 != bt344.2) = true then (none) else (laws_FnTrianglesAreCut.j5 kj36 l0 l1 (t342 != bt344.1)))) = some r := H
              have A72 := Aside0.mk A720
              clear A720
              replace H := Option.bind_eq_some_iff.mp H
              obtain ⟨⟨t344, t345⟩, A730, H⟩ := H
              replace H : (if (t343 != t345) = true then (none) else (laws_FnTrianglesAreCut.j5 kj36 l0 l1 (t342 != t344))) = some r := H
              have A73 := Aside0.mk A730
              clear A730
              have HC74 := Aside0.mk H
              clear H
              go_upto_region 30 with (first | ((with_reducible refine gate_callee (f := 65) rfl ?_); refine goesL_ (some 225) rfl rfl Try.func65 (by kernel_rfl) rfl #[.slice A1 l1.length c1] rfl (by (try simp only [List.map_toArray, List.map_cons, List.map_nil]); first | done | rfl | (simp only [List.length_drop, List.length_take]; rfl)) ?_; (with_reducible refine (spec_DrawIndexOfPoint.calls kj36 _ _ l1 t338 t339 _ ?side1 ?side2 A71.out).mono ?_); (case side1 => repeat (first | exact (Kd.C_below HR1.out HB.out) | (with_reducible refine Kd.C_alloc ?_ _) | (with_reducible refine Kd.C_drewN ?_ _) | (with_reducible refine Kd.C_drew ?_))); (case side2 => exact HC1.out); rintro e w75 ⟨v340, rfl, ho0, hb⟩; refine ⟨_, rfl, ?_⟩; have n0_ := Aside0.mk (Kd.R_lower ho0 (below_size (by repeat (first | (with_reducible first | exact HB.out | apply below_alloc | apply pw_below_drewN | apply below_drew1) | exact HB.out)))); have n1_ := Aside0.mk (below_step (by repeat (first | (with_reducible first | exact HB.out | apply below_alloc | apply pw_below_drewN | apply below_drew1) | exact HB.out)) hb); clear HB; have HO341 := n0_; have HB := n1_; clear n0_ n1_; (try clear hb); (try clear hb2); (try clear hk); (try clear hi); (try clear ho0); obtain ⟨Ao76, co76, eo76⟩ := Kd.R_slice HO341.out; subst eo76) | ((with_reducible refine gate_callee (f := 60) rfl ?_); refine goesL_ (some 231) rfl rfl Try.func60 (by kernel_rfl) rfl #[.int .i64 t338, .slice Ao76 t339.length co76] rfl (by (try simp only [List.map_toArray, List.map_cons, List.map_nil]); first | done | rfl | (simp only [List.length_drop, List.length_take]; rfl)) ?_; (with_reducible refine (impl_IndexOfPoint.calls kj36 t338 _ _ t339 t342 t343 _ ?side1 ?side2 A72.out).mono ?_); (case side1 => repeat (first | exact (Kd.R_reads' HO341.out).2.2 | (with_reducible refine Kd.C_alloc ?_ _) | (with_reducible refine Kd.C_drewN ?_ _) | (with_reducible refine Kd.C_drew ?_))); (case side2 => exact (Kd.R_reads' HO341.out).2.1); rintro e w77 ⟨rfl, hb⟩; refine ⟨_, rfl, ?_⟩; have n0_ := Aside0.mk (Kd.R_below (by (with_reducible repeat (first | apply Kd.R_alloc | apply Kd.R_drewN | apply Kd.R_drew)); exact HO341.out) hb); have n1_ := Aside0.mk (below_step (by repeat (first | (with_reducible first | exact HB.out | apply below_alloc | apply pw_below_drewN | apply below_drew1) | exact HB.out)) hb); clear HO341; clear HB; have HO341 := n0_; have HB := n1_; clear n0_ n1_; (try clear hb); (try clear hb2); (try clear hk); (try clear hi)) | ((with_reducible refine gate_callee (f := 66) rfl ?_); refine goesL_ (some 237) rfl rfl Try.func66 (by kernel_rfl) rfl #[.int .i64 t338, .slice Ao76 t339.length co76] rfl (by (try simp only [List.map_toArray, List.map_cons, List.map_nil]); first | done | rfl | (simp only [List.length_drop, List.length_take]; rfl)) ?_; (with_reducible refine (spec_IndexOfPoint.calls kj36 t338 _ _ t339 t344 t345 _ ?side1 ?side2 A73.out).mono ?_); (case side1 => repeat (first | exact (Kd.R_reads' HO341.out).2.2 | (with_reducible refine Kd.C_alloc ?_ _) | (with_reducible refine Kd.C_drewN ?_ _) | (with_reducible refine Kd.C_drew ?_))); (case side2 => exact (Kd.R_reads' HO341.out).2.1); rintro e w' ⟨rfl, ⟨nd, rfl⟩⟩; refine ⟨_, rfl, ?_⟩))
              (try simp only [Act.put, List.setIfInBounds_toArray, List.set_cons_zero, List.set_cons_succ])
              refine wp_cutm false 59 [120, 2, 85, 2, 118] (fun u_ => (fun v247 wc => ∃ (kq : Nat) (x247_73 : Bool), v247 = .bool x247_73 ∧ Aside0 (laws_FnTrianglesAreCut.j5 kq l0 l1 x247_73 = some r) ∧ Aside0 (kq ≤ kj36) ∧ Aside0 (Below w.heap.size w wc)) (u_ 247)) ?rest5 ?first5
              case first5 => as_aux_lemma =>
                intro _ _ _ _
                have H := HC74.out
                clear HC74
                by_cases c78 : (t343 != t345) = true
                · rw [if_pos c78] at H
                  exact absurd H (by simp)
                · rw [if_neg c78] at H
                  have c78b0 : (t343 != t345) = false := by simpa using c78
                  (try (have c78b1 : decide (t343 = t345) = true := by simpa using c78))
                  (try (have c78b2 : (t343 == t345) = true := by simpa using c78))
                  clear c78
                  (first | rw [c78b0] | (simp only [i64_w, i32_w]; rw [c78b0]) | skip)
                  have H' := Aside0.mk H
                  clear H
                  go_wp2
                  refine Met.m (by assumption) (by kernel_rfl) ?rel
                  case rel => exact ⟨_, ((t342 != t344)), (by first | rfl | (simp; done) | (simp [*]; done) | (simp; decide) | (simp; unfold wrap64; omega)), H', ⟨by have := HJ11.out; have := HJ36.out; first | omega | exact Nat.le_refl _⟩, ⟨by repeat (first | (with_reducible first | exact HB.out | apply below_alloc | apply pw_below_drewN | apply below_drew1) | exact HB.out)⟩⟩
              case rest5 => as_aux_lemma =>
                intro u_ wc hcut
                dsimp only [zipR, Nat.reduceAdd]
                generalize u_ 247 = u247 at hcut ⊢
                clear HC74
                try clear c1
                try clear c2
                try clear p2
                try clear c3
                try clear p3
                try clear q3
                try clear hx3
                try clear c4
                try clear c5
                try clear c6
                try clear p6
                try clear c7
                try clear c20
                try clear c20b0
                try clear c20b1
                try clear c20b2
                try clear c21
                try clear c22
                try clear c23
                try clear c23b0
                try clear c23b1
                try clear c23b2
                try clear c25
                try clear c26
                try clear c26b0
                try clear c26b1
                try clear c26b2
                try clear c28
                try clear c29
                try clear c29b0
                try clear c29b1
                try clear c29b2
                try clear p32
                try clear q32
                try clear hx32
                try clear c36
                try clear c38
                try clear c43
                try clear c44
                try clear c44b0
                try clear c44b1
                try clear c46
                try clear c50
                try clear c53
                try clear c54
                try clear c55
                try clear c56
                try clear c56b0
                try clear c57
                try clear c57b0
                try clear c58
                try clear c58b0
                try clear c59
                try clear c60
                try clear c61
                try clear c62
                try clear c63
                try clear c64
                try clear p64
                try clear c65
                try clear c65b0
                try clear c65b1
                try clear c66
                try clear c66b0
                try clear c66b1
                try clear c78
                try clear c78b0
                try clear c78b1
                try clear c78b2
                try clear hx328_0
                try clear p2
                try clear p3
                try clear p32
                try clear p328
                try clear p6
                try clear p64
                try clear q3
                try clear q32
                try clear q328
                obtain ⟨kq, x247_73, rfl, HA, HJ73, HB⟩ := hcut
                cases kq with
                | zero => exact absurd HA.out (by simp [laws_FnTrianglesAreCut.j5])
                | succ kj73 =>
                  have H := HA.out
                  clear HA
                  simp only [laws_FnTrianglesAreCut.j5] at H
                  by_cases c79 : x247_73 = true
                  · subst c79
                    have H1 : (none) = some r := by rw [if_pos rfl] at H; exact H
                    clear H
                    have H := H1
                    clear H1
                    exact absurd H (by simp)
                  · replace c79 := Bool.eq_false_iff.mpr c79
                    subst c79
                    have H1 : ((spec_DrawCellsOf.f l1).bind fun t346 => ((impl_CellsOf.f kj73 t346).bind fun bt347 => ((spec_CellsOf.f kj73 t346).bind fun bt351 => (if (bt347.2 != bt351.2) = true then (none) else ((laws_uSameRows.f kj73 bt347.1 bt351.1).bind fun t355 => (laws_FnTrianglesAreCut.j6 kj73 l0 t346 bt347.1 bt347.2 (!t355))))))) = some r := by rw [if_neg (show ¬ (false = true) by decide)] at H; exact H
                    clear H
                    have H := H1
                    clear H1
                    replace H := Option.bind_eq_some_iff.mp H
                    obtain ⟨t346, A800, H⟩ := H
                    replace H : ((impl_CellsOf.f kj73 t346).bind fun bt347 => ((spec_CellsOf.f kj73 t346).bind fun bt351 => (if (bt347.2 != bt351.2) = true then (none) else ((laws_uSameRows.f kj73 bt347.1 bt351.1).bind fun t355 => (laws_FnTrianglesAreCut.j6 kj73 l0 t346 bt347.1 bt347.2 (!t355)))))) = some r := H
                    have A80 := Aside0.mk A800
                    clear A800
                    replace H := Option.bind_eq_some_iff.mp H
                    obtain ⟨⟨t347, t348⟩, A810, H⟩ := H
                    replace H : ((spec_CellsOf.f kj73 t346).bind fun bt351 => (if (t348 != bt351.2) = true then (none) else ((laws_uSameRows.f kj73 t347 bt351.1).bind fun t355 => (laws_FnTrianglesAreCut.j6 kj73 l0 t346 t347 t348 (!t355))))) = some r := H
                    have A81 := Aside0.mk A810
                    clear A810
                    replace H := Option.bind_eq_some_iff.mp H
                    obtain ⟨⟨t351, t352⟩, A820, H⟩ := H
                    replace H : (if (t348 != t352) = true then (none) else ((laws_uSameRows.f kj73 t347 t351).bind fun t355 => (laws_FnTrianglesAreCut.j6 kj73 l0 t346 t347 t348 (!t355)))) = some r := H
                    have A82 := Aside0.mk A820
                    clear A820
                    have HC83 := Aside0.mk H
                    clear H
                    go_upto_region 35 with (first | ((with_reducible refine gate_callee (f := 67) rfl ?_); refine goesL_ (some 249) rfl rfl Try.func67 (by kernel_rfl) rfl #[.slice A1 l1.length c1] rfl (by (try simp only [List.map_toArray, List.map_cons, List.map_nil]); first | done | rfl | (simp only [List.length_drop, List.length_take]; rfl)) ?_; (with_reducible refine (spec_DrawCellsOf.calls _ _ l1 t346 _ ?side1 ?side2 A80.out).mono ?_); (case side1 => repeat (first | exact (Kd.C_below HR1.out HB.out) | (with_reducible refine Kd.C_alloc ?_ _) | (with_reducible refine Kd.C_drewN ?_ _) | (with_reducible refine Kd.C_drew ?_))); (case side2 => exact HC1.out); rintro e w84 ⟨rfl, hb⟩; refine ⟨_, rfl, ?_⟩; have n0_ := Aside0.mk (below_step (by repeat (first | (with_reducible first | exact HB.out | apply below_alloc | apply pw_below_drewN | apply below_drew1) | exact HB.out)) hb); clear HB; have HB := n0_; clear n0_; (try clear hb); (try clear hb2); (try clear hk); (try clear hi)) | ((with_reducible refine gate_callee (f := 68) rfl ?_); refine goesL_ (some 252) rfl rfl Try.func68 (by kernel_rfl) rfl #[.int .i64 t346] rfl (by (try simp only [List.map_toArray, List.map_cons, List.map_nil]); first | done | rfl | (simp only [List.length_drop, List.length_take]; rfl)) ?_; (with_reducible refine (impl_CellsOf.calls kj73 t346 t347 t348 _ A81.out).mono ?_); rintro e w85 ⟨v349, rfl, ho0, hb⟩; refine ⟨_, rfl, ?_⟩; have n0_ := Aside0.mk (Kd.S_lower ho0 (below_size (by repeat (first | (with_reducible first | exact HB.out | apply below_alloc | apply pw_below_drewN | apply below_drew1) | exact HB.out)))); have n1_ := Aside0.mk (below_step (by repeat (first | (with_reducible first | exact HB.out | apply below_alloc | apply pw_below_drewN | apply below_drew1) | exact HB.out)) hb); clear HB; have HO350 := n0_; have HB := n1_; clear n0_ n1_; (try clear hb); (try clear hb2); (try clear hk); (try clear hi); (try clear ho0)) | ((with_reducible refine gate_callee (f := 69) rfl ?_); refine goesL_ (some 257) rfl rfl Try.func69 (by kernel_rfl) rfl #[.int .i64 t346] rfl (by (try simp only [List.map_toArray, List.map_cons, List.map_nil]); first | done | rfl | (simp only [List.length_drop, List.length_take]; rfl)) ?_; (with_reducible refine (spec_CellsOf.calls kj73 t346 t351 t352 _ A82.out).mono ?_); rintro e w86 ⟨v353, rfl, ho0, hb⟩; refine ⟨_, rfl, ?_⟩; have n0_ := Aside0.mk (Kd.S_elder' (by (with_reducible repeat (first | apply Kd.S_alloc | apply Kd.S_drewN | apply Kd.S_drew)); exact HO350.out) (Kd.S_base ho0) hb); have n1_ := Aside0.mk (Kd.S_lower (Kd.S_new' ho0 (Kd.S_lt (by (with_reducible repeat (first | apply Kd.S_alloc | apply Kd.S_drewN | apply Kd.S_drew)); exact HO350.out))) (below_size (by repeat (first | (with_reducible first | exact HB.out | apply below_alloc | apply pw_below_drewN | apply below_drew1) | exact HB.out)))); have n2_ := Aside0.mk (below_step (by repeat (first | (with_reducible first | exact HB.out | apply below_alloc | apply pw_below_drewN | apply below_drew1) | exact HB.out)) hb); clear HO350; clear HB; have HO350 := n0_; have HO354 := n1_; have HB := n2_; clear n0_ n1_ n2_; (try clear hb); (try clear hb2); (try clear hk); (try clear hi); (try clear ho0)))
                    (try simp only [Act.put, List.setIfInBounds_toArray, List.set_cons_zero, List.set_cons_succ])
                    refine wp_cutm false 59 [120, 2, 85, 2, 118] (fun u_ => (fun v268 wc => ∃ (kq : Nat) (x268_82 : Bool), v268 = .bool x268_82 ∧ Aside0 (laws_FnTrianglesAreCut.j6 kq l0 t346 t347 t348 x268_82 = some r) ∧ Aside0 (kq ≤ kj73) ∧ Aside0 (Kd.S (Kd.slice 3 (Kd.int .i64)) 22 wc w.heap.size (fun _ => True) v349 t347) ∧ Aside0 (Below w.heap.size w wc)) (u_ 268)) ?rest6 ?first6
                    case first6 => as_aux_lemma =>
                      intro _ _ _ _
                      have H := HC83.out
                      clear HC83
                      by_cases c87 : (t348 != t352) = true
                      · rw [if_pos c87] at H
                        exact absurd H (by simp)
                      · rw [if_neg c87] at H
                        have c87b0 : (t348 != t352) = false := by simpa using c87
                        (try (have c87b1 : decide (t348 = t352) = true := by simpa using c87))
                        (try (have c87b2 : (t348 == t352) = true := by simpa using c87))
                        clear c87
                        (first | rw [c87b0] | (simp only [i64_w, i32_w]; rw [c87b0]) | skip)
                        replace H := Option.bind_eq_some_iff.mp H
                        obtain ⟨t355, A880, H⟩ := H
                        replace H : (laws_FnTrianglesAreCut.j6 kj73 l0 t346 t347 t348 (!t355)) = some r := H
                        have A88 := Aside0.mk A880
                        clear A880
                        have H' := Aside0.mk H
                        clear H
                        obtain ⟨Ao89, co89, eo89⟩ := Kd.S_slice HO350.out
                        subst eo89
                        obtain ⟨Ao90, co90, eo90⟩ := Kd.S_slice HO354.out
                        subst eo90
                        go_wp2_with (first | (go_at_call 70; (with_reducible refine (laws_uSameRows.calls kj73 _ _ t347 _ _ t351 t355 _ ?side1 ?side2 ?side3 ?side4 A88.out).mono ?_); (case side1 => repeat (first | exact (Kd.S_reads' HO350.out).2.2 | (with_reducible refine Kd.C_alloc ?_ _) | (with_reducible refine Kd.C_drewN ?_ _) | (with_reducible refine Kd.C_drew ?_))); (case side2 => exact (Kd.S_reads' HO350.out).2.1); (case side3 => repeat (first | exact (Kd.S_reads' HO354.out).2.2 | (with_reducible refine Kd.C_alloc ?_ _) | (with_reducible refine Kd.C_drewN ?_ _) | (with_reducible refine Kd.C_drew ?_))); (case side4 => exact (Kd.S_reads' HO354.out).2.1); rintro e w' ⟨rfl, ⟨nd, rfl⟩⟩))
                        refine Met.m (by assumption) (by kernel_rfl) ?rel
                        case rel => exact ⟨_, (!t355), (by first | rfl | (simp; done) | (simp [*]; done) | (simp; decide) | (simp; unfold wrap64; omega)), H', ⟨by have := HJ11.out; have := HJ36.out; have := HJ73.out; first | omega | exact Nat.le_refl _⟩, ⟨by (with_reducible repeat (first | apply Kd.S_alloc | apply Kd.S_drewN | apply Kd.S_drew)); exact Kd.S_mono HO350.out (fun _ hk => trivial)⟩, ⟨by repeat (first | (with_reducible first | exact HB.out | apply below_alloc | apply pw_below_drewN | apply below_drew1) | exact HB.out)⟩⟩
                    case rest6 => as_aux_lemma =>
                      intro u_ wc hcut
                      dsimp only [zipR, Nat.reduceAdd]
                      generalize u_ 268 = u268 at hcut ⊢
                      clear HC83
                      try clear c1
                      try clear c2
                      try clear p2
                      try clear c3
                      try clear p3
                      try clear q3
                      try clear hx3
                      try clear c4
                      try clear c5
                      try clear c6
                      try clear p6
                      try clear c7
                      try clear c8
                      try clear c20
                      try clear c20b0
                      try clear c20b1
                      try clear c20b2
                      try clear c21
                      try clear c22
                      try clear c23
                      try clear c23b0
                      try clear c23b1
                      try clear c23b2
                      try clear c25
                      try clear c26
                      try clear c26b0
                      try clear c26b1
                      try clear c26b2
                      try clear c28
                      try clear c29
                      try clear c29b0
                      try clear c29b1
                      try clear c29b2
                      try clear p32
                      try clear q32
                      try clear hx32
                      try clear c36
                      try clear c38
                      try clear c43
                      try clear c44
                      try clear c44b0
                      try clear c44b1
                      try clear c46
                      try clear c50
                      try clear c53
                      try clear c54
                      try clear c55
                      try clear c56
                      try clear c56b0
                      try clear c57
                      try clear c57b0
                      try clear c58
                      try clear c58b0
                      try clear c59
                      try clear c60
                      try clear c61
                      try clear c62
                      try clear c63
                      try clear c64
                      try clear p64
                      try clear c65
                      try clear c65b0
                      try clear c65b1
                      try clear c66
                      try clear c66b0
                      try clear c66b1
                      try clear c67
                      try clear c68
                      try clear c69
                      try clear c78
                      try clear c78b0
                      try clear c78b1
                      try clear c78b2
                      try clear c79
                      try clear c87
                      try clear c87b0
                      try clear c87b1
                      try clear c87b2
                      try clear hx328_0
                      try clear p2
                      try clear p3
                      try clear p32
                      try clear p328
                      try clear p6
                      try clear p64
                      try clear q3
                      try clear q32
                      try clear q328
                      obtain ⟨kq, x268_82, rfl, HA, HJ82, HO_36, HB⟩ := hcut
                      cases kq with
                      | zero => exact absurd HA.out (by simp [laws_FnTrianglesAreCut.j6])
                      | succ kj82 =>
                        have H := HA.out
                        clear HA
                        simp only [laws_FnTrianglesAreCut.j6] at H
                        by_cases c91 : x268_82 = true
                        · subst c91
                          have H1 : (none) = some r := by rw [if_pos rfl] at H; exact H
                          clear H
                          have H := H1
                          clear H1
                          exact absurd H (by simp)
                        · replace c91 := Bool.eq_false_iff.mpr c91
                          subst c91
                          have H1 : (if t348 = true then (laws_FnTrianglesAreCut.l1 kj82 l0 t346 t347 0 t347 (t347.length : Int) 0) else (laws_FnTrianglesAreCut.j9 kj82 l0)) = some r := by rw [if_neg (show ¬ (false = true) by decide)] at H; exact H
                          clear H
                          have H := H1
                          clear H1
                          have HC92 := Aside0.mk H
                          clear H
                          go_upto_if 269 with (fail)
                          refine wp_cutm false 3 [0, 34, 6, 12, 120, 2, 207] (fun u_ => (fun wc => ∃ (kq : Nat), Aside0 (laws_FnTrianglesAreCut.j9 kq l0 = some r) ∧ Aside0 (kq ≤ kj82) ∧ Aside0 (Below w.heap.size w wc))) ?rest7 ?first7
                          case first7 => as_aux_lemma =>
                            intro _ _ _ _
                            have H := HC92.out
                            clear HC92
                            by_cases c93 : t348 = true
                            · subst c93
                              have H1 : (laws_FnTrianglesAreCut.l1 kj82 l0 t346 t347 0 t347 (t347.length : Int) 0) = some r := by rw [if_pos rfl] at H; exact H
                              clear H
                              have H := H1
                              clear H1
                              have H' := Aside0.mk H
                              clear H
                              obtain ⟨Ao94, co94, eo94⟩ := Kd.S_slice HO_36.out
                              subst eo94
                              go_wp2
                              go_loopg [40, 272] kj82 (fun kq v40 v272 w' => ∃ (x40_5 : Int) (x272_5 : Int), v40 = .int .i64 x40_5 ∧ v272 = .int .i64 x272_5 ∧ Aside0 (laws_FnTrianglesAreCut.l1 kq l0 t346 t347 x40_5 t347 (t347.length : Int) x272_5 = some r) ∧ Aside0 (kq ≤ kj82) ∧ Aside0 (Kd.S (Kd.slice 3 (Kd.int .i64)) 22 w' w.heap.size (fun _ => True) (.slice Ao94 t347.length co94) t347) ∧ Aside0 (Kd.S (Kd.slice 3 (Kd.int .i64)) 22 w' w.heap.size (fun _ => True) (.slice Ao94 t347.length co94) t347) ∧ Aside0 (Below w.heap.size w w'))
                              case atStart => exact ⟨(0), (0), (by first | rfl | (simp; done) | (simp [*]; done) | (simp; decide) | (simp; unfold wrap64; omega)), (by first | rfl | (simp; done) | (simp [*]; done) | (simp; decide) | (simp; unfold wrap64; omega)), H', ⟨Nat.le_refl _⟩, ⟨by (with_reducible repeat (first | apply Kd.S_alloc | apply Kd.S_drewN | apply Kd.S_drew)); exact HO_36.out⟩, ⟨by (with_reducible repeat (first | apply Kd.S_alloc | apply Kd.S_drewN | apply Kd.S_drew)); exact HO_36.out⟩, ⟨by repeat (first | (with_reducible first | exact HB.out | apply below_alloc | apply pw_below_drewN | apply below_drew1) | exact HB.out)⟩⟩
                              case round => as_aux_lemma =>
                                clear H'
                                try clear c1
                                try clear c2
                                try clear p2
                                try clear c3
                                try clear p3
                                try clear q3
                                try clear hx3
                                try clear c4
                                try clear c5
                                try clear c6
                                try clear p6
                                try clear c7
                                try clear c8
                                try clear c9
                                try clear c20
                                try clear c20b0
                                try clear c20b1
                                try clear c20b2
                                try clear c21
                                try clear c22
                                try clear c23
                                try clear c23b0
                                try clear c23b1
                                try clear c23b2
                                try clear c25
                                try clear c26
                                try clear c26b0
                                try clear c26b1
                                try clear c26b2
                                try clear c28
                                try clear c29
                                try clear c29b0
                                try clear c29b1
                                try clear c29b2
                                try clear p32
                                try clear q32
                                try clear hx32
                                try clear c36
                                try clear c38
                                try clear c43
                                try clear c44
                                try clear c44b0
                                try clear c44b1
                                try clear c46
                                try clear c50
                                try clear c53
                                try clear c54
                                try clear c55
                                try clear c56
                                try clear c56b0
                                try clear c57
                                try clear c57b0
                                try clear c58
                                try clear c58b0
                                try clear c59
                                try clear c60
                                try clear c61
                                try clear c62
                                try clear c63
                                try clear c64
                                try clear p64
                                try clear c65
                                try clear c65b0
                                try clear c65b1
                                try clear c66
                                try clear c66b0
                                try clear c66b1
                                try clear c67
                                try clear c68
                                try clear c69
                                try clear c78
                                try clear c78b0
                                try clear c78b1
                                try clear c78b2
                                try clear c79
                                try clear c87
                                try clear c87b0
                                try clear c87b1
                                try clear c87b2
                                try clear c91
                                try clear c93
                                try clear hx328_0
                                try clear p2
                                try clear p3
                                try clear p32
                                try clear p328
                                try clear p6
                                try clear p64
                                try clear q3
                                try clear q32
                                try clear q328
                                obtain ⟨x40_5, x272_5, rfl, rfl, HA, HK5, HO_36, HO_270, HB⟩ := hrel
                                cases gk with
                                | zero => exact absurd HA.out (by simp [laws_FnTrianglesAreCut.l1])
                                | succ k5 =>
                                  have H := HA.out
                                  clear HA
                                  simp only [laws_FnTrianglesAreCut.l1] at H
                                  by_cases c95 : x272_5 < (t347.length : Int)
                                  · rw [if_pos c95] at H
                                    have c95b0 : decide (x272_5 < (t347.length : Int)) = true := decide_eq_true c95
                                    clear c95
                                    (first | rw [c95b0] | (simp only [i64_w, i32_w]; rw [c95b0]) | skip)
                                    by_cases c96 : 0 ≤ x272_5
                                    · rw [if_pos c96] at H
                                      have c96b0 : decide (0 ≤ x272_5) = true := decide_eq_true c96
                                      clear c96
                                      by_cases c97 : x272_5 < (t347.length : Int)
                                      · rw [if_pos c97] at H
                                        have c97b0 : decide (x272_5 < (t347.length : Int)) = true := decide_eq_true c97
                                        clear c97
                                        replace H := Option.bind_eq_some_iff.mp H
                                        obtain ⟨⟨t359, t360⟩, A980, H⟩ := H
                                        replace H : (if t360 = true then (if x272_5 > 0 then (if 0 ≤ (wrap64 (x272_5 - 1)) then (if (wrap64 (x272_5 - 1)) < (t347.length : Int) then ((laws_uLess.f k5 (rd_L2 t347 (wrap64 (x272_5 - 1))) (rd_L2 t347 x272_5)).bind fun t362 => (laws_FnTrianglesAreCut.j8 k5 l0 t346 t347 x40_5 t359 t347 (t347.length : Int) x272_5 (!t362))) else (none)) else (none)) else (laws_FnTrianglesAreCut.j8 k5 l0 t346 t347 x40_5 t359 t347 (t347.length : Int) x272_5 false)) else (none)) = some r := H
                                        have A98 := Aside0.mk A980
                                        clear A980
                                        have HC99 := Aside0.mk H
                                        clear H
                                        have p358 : 0 ≤ (x272_5 : Int) := of_decide_eq_true (by first | (with_reducible assumption) | assumption)
                                        have q358 : x272_5 < (t347.length : Int) := of_decide_eq_true (by first | (with_reducible assumption) | assumption)
                                        obtain ⟨ad358, A358_0, c358_0, e358, hx358_0, hl358_0, hi358_0⟩ := at_L2 (Kd.S_reads' HO_270.out).2.2 x272_5 p358 q358
                                        cases e358
                                        obtain ⟨ce358, hce358, hMe358, hcc358⟩ := Kd.S_get HO_270.out [] x272_5 p358 (by first | exact q358 | exact of_decide_eq_true (by first | (with_reducible assumption) | assumption) | (have e_ := (Kd.S_reads' HO_270.out).1; omega))
                                        obtain ⟨ve358_0, rfl, ge358_0⟩ := hMe358
                                        have hv358_0 := hcc358 0 _ rfl
                                        rw [Nat.add_zero, show ((Kd.slice 3 (Kd.int .i64))).sz = 1 from rfl, Nat.mul_one] at hv358_0
                                        replace hv358_0 := Option.some.inj (hv358_0.symm.trans hx358_0)
                                        rw [hv358_0] at ge358_0
                                        have HL358_0 := Aside0.mk (show Kd.R (Kd.int .i64) 3 _ _ _ _ (rd_L2 t347 x272_5) from ge358_0)
                                        clear hv358_0 ge358_0
                                        clear hcc358 hce358
                                        have HR358_0 := Aside0.mk hi358_0
                                        have HC358_0 := Aside0.mk hl358_0
                                        clear hi358_0 hl358_0
                                        replace p358 := eq_true p358
                                        replace q358 := eq_true q358
                                        go_upto_region 43 with (first | ((with_reducible refine gate_callee (f := 71) rfl ?_); refine goesL_ (some 280) rfl rfl Try.func71 (by kernel_rfl) rfl #[.int .i64 t346, .int .i64 x272_5] rfl (by (try simp only [List.map_toArray, List.map_cons, List.map_nil]); first | done | rfl | (simp only [List.length_drop, List.length_take]; rfl)) ?_; (with_reducible refine (impl_IsUpCell.calls k5 t346 x272_5 t359 t360 _ A98.out).mono ?_); rintro e w100 ⟨rfl, hb⟩; refine ⟨_, rfl, ?_⟩; have n0_ := Aside0.mk (Kd.S_below (by (with_reducible repeat (first | apply Kd.S_alloc | apply Kd.S_drewN | apply Kd.S_drew)); exact HO_36.out) hb); have n1_ := Aside0.mk (Kd.S_below (by (with_reducible repeat (first | apply Kd.S_alloc | apply Kd.S_drewN | apply Kd.S_drew)); exact HO_270.out) hb); have n2_ := Aside0.mk (Kd.R_below (by (with_reducible repeat (first | apply Kd.R_alloc | apply Kd.R_drewN | apply Kd.R_drew)); exact HL358_0.out) hb); have n3_ := Aside0.mk (Kd.C_below (by repeat (first | (with_reducible exact HR358_0.out) | (with_reducible refine Kd.C_alloc ?_ _) | (with_reducible refine Kd.C_drewN ?_ _) | (with_reducible refine Kd.C_drew ?_) | exact HR358_0.out)) hb); have n4_ := Aside0.mk (below_step (by repeat (first | (with_reducible first | exact HB.out | apply below_alloc | apply pw_below_drewN | apply below_drew1) | exact HB.out)) hb); clear HO_36; clear HO_270; clear HL358_0; clear HR358_0; clear HB; have HO_36 := n0_; have HO_270 := n1_; have HL358_0 := n2_; have HR358_0 := n3_; have HB := n4_; clear n0_ n1_ n2_ n3_ n4_; (try clear hb); (try clear hb2); (try clear hk); (try clear hi)))
                                        (try simp only [Act.put, List.setIfInBounds_toArray, List.set_cons_zero, List.set_cons_succ])
                                        refine wp_cutm false 272 [29, 88] (fun u_ => (fun v298 wc => ∃ (kq : Nat) (x298_98 : Bool), v298 = .bool x298_98 ∧ Aside0 (laws_FnTrianglesAreCut.j8 kq l0 t346 t347 x40_5 t359 t347 (t347.length : Int) x272_5 x298_98 = some r) ∧ Aside0 (kq ≤ k5) ∧ Aside0 (Kd.S (Kd.slice 3 (Kd.int .i64)) 22 wc w.heap.size (fun _ => True) (.slice (some ad358) t347.length co94) t347) ∧ Aside0 (Kd.S (Kd.slice 3 (Kd.int .i64)) 22 wc w.heap.size (fun _ => True) (.slice (some ad358) t347.length co94) t347) ∧ Aside0 (Kd.C (Kd.int .i64) wc A358_0 (rd_L2 t347 x272_5).length (rd_L2 t347 x272_5)) ∧ Aside0 (Below w.heap.size w wc)) (u_ 298)) ?rest8 ?first8
                                        case first8 => as_aux_lemma =>
                                          intro _ _ _ _
                                          have H := HC99.out
                                          clear HC99
                                          by_cases c101 : t360 = true
                                          · subst c101
                                            have H1 : (if x272_5 > 0 then (if 0 ≤ (wrap64 (x272_5 - 1)) then (if (wrap64 (x272_5 - 1)) < (t347.length : Int) then ((laws_uLess.f k5 (rd_L2 t347 (wrap64 (x272_5 - 1))) (rd_L2 t347 x272_5)).bind fun t362 => (laws_FnTrianglesAreCut.j8 k5 l0 t346 t347 x40_5 t359 t347 (t347.length : Int) x272_5 (!t362))) else (none)) else (none)) else (laws_FnTrianglesAreCut.j8 k5 l0 t346 t347 x40_5 t359 t347 (t347.length : Int) x272_5 false)) = some r := by rw [if_pos rfl] at H; exact H
                                            clear H
                                            have H := H1
                                            clear H1
                                            by_cases c102 : x272_5 > 0
                                            · rw [if_pos c102] at H
                                              have c102b0 : decide (0 < x272_5) = true := decide_eq_true c102
                                              clear c102
                                              (first | rw [c102b0] | (simp only [i64_w, i32_w]; rw [c102b0]) | skip)
                                              obtain ⟨ji103, hji103⟩ : ∃ j_ : Int, (wrap64 (x272_5 - 1)) = j_ := ⟨_, rfl⟩
                                              replace H : (if 0 ≤ (ji103) then (if (ji103) < (t347.length : Int) then ((laws_uLess.f k5 (rd_L2 t347 (ji103)) (rd_L2 t347 x272_5)).bind fun t362 => (laws_FnTrianglesAreCut.j8 k5 l0 t346 t347 x40_5 t359 t347 (t347.length : Int) x272_5 (!t362))) else (none)) else (none)) = some r := by first | (rw [hji103] at H; exact H) | (simp only [hji103] at H ⊢; exact H)
                                              have hji103w : (IntKind.i64.wrap (x272_5 - 1)) = ji103 := (i64_w _).trans hji103
                                              by_cases c104 : 0 ≤ (ji103)
                                              · rw [if_pos c104] at H
                                                have c104b0 : decide (0 ≤ (ji103)) = true := decide_eq_true c104
                                                clear c104
                                                by_cases c105 : (ji103) < (t347.length : Int)
                                                · rw [if_pos c105] at H
                                                  have c105b0 : decide ((ji103) < (t347.length : Int)) = true := decide_eq_true c105
                                                  clear c105
                                                  replace H := Option.bind_eq_some_iff.mp H
                                                  obtain ⟨t362, A1060, H⟩ := H
                                                  replace H : (laws_FnTrianglesAreCut.j8 k5 l0 t346 t347 x40_5 t359 t347 (t347.length : Int) x272_5 (!t362)) = some r := H
                                                  have A106 := Aside0.mk A1060
                                                  clear A1060
                                                  have H' := Aside0.mk H
                                                  clear H
                                                  have p361 : 0 ≤ ((ji103) : Int) := of_decide_eq_true (by first | (with_reducible assumption) | assumption)
                                                  have q361 : (ji103) < (t347.length : Int) := of_decide_eq_true (by first | (with_reducible assumption) | assumption)
                                                  obtain ⟨ad361, A361_0, c361_0, e361, hx361_0, hl361_0, hi361_0⟩ := at_L2 (Kd.S_reads' HO_36.out).2.2 (ji103) p361 q361
                                                  obtain rfl : ad358 = ad361 := (by injection e361)
                                                  obtain ⟨ce361, hce361, hMe361, hcc361⟩ := Kd.S_get HO_36.out [] (ji103) p361 (by first | exact q361 | exact of_decide_eq_true (by first | (with_reducible assumption) | assumption) | (have e_ := (Kd.S_reads' HO_36.out).1; omega))
                                                  obtain ⟨ve361_0, rfl, ge361_0⟩ := hMe361
                                                  have hv361_0 := hcc361 0 _ rfl
                                                  rw [Nat.add_zero, show ((Kd.slice 3 (Kd.int .i64))).sz = 1 from rfl, Nat.mul_one] at hv361_0
                                                  replace hv361_0 := Option.some.inj (hv361_0.symm.trans hx361_0)
                                                  rw [hv361_0] at ge361_0
                                                  have HL361_0 := Aside0.mk (show Kd.R (Kd.int .i64) 3 _ _ _ _ (rd_L2 t347 (ji103)) from ge361_0)
                                                  clear hv361_0 ge361_0
                                                  clear hcc361 hce361
                                                  have HR361_0 := Aside0.mk hi361_0
                                                  have HC361_0 := Aside0.mk hl361_0
                                                  clear hi361_0 hl361_0
                                                  replace p361 := eq_true p361
                                                  replace q361 := eq_true q361
                                                  go_wp2_with (first | (go_at_call 72; (with_reducible refine (laws_uLess.calls k5 _ _ (rd_L2 t347 (ji103)) _ _ (rd_L2 t347 x272_5) t362 _ ?side1 ?side2 ?side3 ?side4 A106.out).mono ?_); (case side1 => repeat (first | exact (by repeat (first | (with_reducible exact HR361_0.out) | (with_reducible refine Kd.C_alloc ?_ _) | (with_reducible refine Kd.C_drewN ?_ _) | (with_reducible refine Kd.C_drew ?_) | exact HR361_0.out)) | (with_reducible refine Kd.C_alloc ?_ _) | (with_reducible refine Kd.C_drewN ?_ _) | (with_reducible refine Kd.C_drew ?_))); (case side2 => exact HC361_0.out); (case side3 => repeat (first | exact (by repeat (first | (with_reducible exact HR358_0.out) | (with_reducible refine Kd.C_alloc ?_ _) | (with_reducible refine Kd.C_drewN ?_ _) | (with_reducible refine Kd.C_drew ?_) | exact HR358_0.out)) | (with_reducible refine Kd.C_alloc ?_ _) | (with_reducible refine Kd.C_drewN ?_ _) | (with_reducible refine Kd.C_drew ?_))); (case side4 => exact HC358_0.out); rintro e w' ⟨rfl, ⟨nd, rfl⟩⟩))
                                                  refine Met.m (by assumption) (by kernel_rfl) ?rel
                                                  case rel => exact ⟨_, (!t362), (by first | rfl | (simp; done) | (simp [*]; done) | (simp; decide) | (simp; unfold wrap64; omega)), H', ⟨by have := HJ11.out; have := HJ36.out; have := HJ73.out; have := HJ82.out; have := HK5.out; first | omega | exact Nat.le_refl _⟩, ⟨by (with_reducible repeat (first | apply Kd.S_alloc | apply Kd.S_drewN | apply Kd.S_drew)); exact HO_36.out⟩, ⟨by (with_reducible repeat (first | apply Kd.S_alloc | apply Kd.S_drewN | apply Kd.S_drew)); exact HO_270.out⟩, ⟨by repeat (first | (with_reducible exact HR358_0.out) | (with_reducible refine Kd.C_alloc ?_ _) | (with_reducible refine Kd.C_drewN ?_ _) | (with_reducible refine Kd.C_drew ?_) | exact HR358_0.out)⟩, ⟨by repeat (first | (with_reducible first | exact HB.out | apply below_alloc | apply pw_below_drewN | apply below_drew1) | exact HB.out)⟩⟩
                                                · rw [if_neg c105] at H
                                                  exact absurd H (by simp)
                                              · rw [if_neg c104] at H
                                                exact absurd H (by simp)
                                            · rw [if_neg c102] at H
                                              have c102b0 : decide (0 < x272_5) = false := decide_eq_false c102
                                              clear c102
                                              (first | rw [c102b0] | (simp only [i64_w, i32_w]; rw [c102b0]) | skip)
                                              have H' := Aside0.mk H
                                              clear H
                                              go_wp2
                                              refine Met.m (by assumption) (by kernel_rfl) ?rel
                                              case rel => exact ⟨_, (false), (by first | rfl | (simp; done) | (simp [*]; done) | (simp; decide) | (simp; unfold wrap64; omega)), H', ⟨by have := HJ11.out; have := HJ36.out; have := HJ73.out; have := HJ82.out; have := HK5.out; first | omega | exact Nat.le_refl _⟩, ⟨by (with_reducible repeat (first | apply Kd.S_alloc | apply Kd.S_drewN | apply Kd.S_drew)); exact HO_36.out⟩, ⟨by (with_reducible repeat (first | apply Kd.S_alloc | apply Kd.S_drewN | apply Kd.S_drew)); exact HO_270.out⟩, ⟨by repeat (first | (with_reducible exact HR358_0.out) | (with_reducible refine Kd.C_alloc ?_ _) | (with_reducible refine Kd.C_drewN ?_ _) | (with_reducible refine Kd.C_drew ?_) | exact HR358_0.out)⟩, ⟨by repeat (first | (with_reducible first | exact HB.out | apply below_alloc | apply pw_below_drewN | apply below_drew1) | exact HB.out)⟩⟩
                                          · replace c101 := Bool.eq_false_iff.mpr c101
                                            subst c101
                                            have H1 : (none) = some r := by rw [if_neg (show ¬ (false = true) by decide)] at H; exact H
                                            clear H
                                            have H := H1
                                            clear H1
                                            exact absurd H (by simp)
                                        case rest8 => as_aux_lemma =>
                                          intro u_ wc hcut
                                          dsimp only [zipR, Nat.reduceAdd]
                                          generalize u_ 298 = u298 at hcut ⊢
                                          clear HC99
                                          try clear c1
                                          try clear c2
                                          try clear p2
                                          try clear c3
                                          try clear p3
                                          try clear q3
                                          try clear hx3
                                          try clear c4
                                          try clear c5
                                          try clear c6
                                          try clear p6
                                          try clear c7
                                          try clear c8
                                          try clear c9
                                          try clear c10
                                          try clear c20
                                          try clear c20b0
                                          try clear c20b1
                                          try clear c20b2
                                          try clear c21
                                          try clear c22
                                          try clear c23
                                          try clear c23b0
                                          try clear c23b1
                                          try clear c23b2
                                          try clear c25
                                          try clear c26
                                          try clear c26b0
                                          try clear c26b1
                                          try clear c26b2
                                          try clear c28
                                          try clear c29
                                          try clear c29b0
                                          try clear c29b1
                                          try clear c29b2
                                          try clear p32
                                          try clear q32
                                          try clear hx32
                                          try clear c35
                                          try clear p35
                                          try clear q35
                                          try clear hx35
                                          try clear c36
                                          try clear p36
                                          try clear q36
                                          try clear hx36
                                          try clear c38
                                          try clear c43
                                          try clear c44
                                          try clear c44b0
                                          try clear c44b1
                                          try clear c46
                                          try clear c50
                                          try clear c53
                                          try clear c54
                                          try clear c55
                                          try clear c56
                                          try clear c56b0
                                          try clear c57
                                          try clear c57b0
                                          try clear c58
                                          try clear c58b0
                                          try clear c59
                                          try clear c60
                                          try clear c61
                                          try clear c62
                                          try clear c63
                                          try clear c64
                                          try clear p64
                                          try clear c65
                                          try clear c65b0
                                          try clear c65b1
                                          try clear c66
                                          try clear c66b0
                                          try clear c66b1
                                          try clear c67
                                          try clear c68
                                          try clear c69
                                          try clear c71
                                          try clear c78
                                          try clear c78b0
                                          try clear c78b1
                                          try clear c78b2
                                          try clear c79
                                          try clear c87
                                          try clear c87b0
                                          try clear c87b1
                                          try clear c87b2
                                          try clear c91
                                          try clear c93
                                          try clear c95
                                          try clear c95b0
                                          try clear c96
                                          try clear c96b0
                                          try clear c97
                                          try clear c97b0
                                          try clear c101
                                          try clear c102
                                          try clear c102b0
                                          try clear c104
                                          try clear c104b0
                                          try clear c105
                                          try clear c105b0
                                          try clear hx328_0
                                          try clear hx358_0
                                          try clear hx361_0
                                          try clear p2
                                          try clear p3
                                          try clear p32
                                          try clear p328
                                          try clear p358
                                          try clear p361
                                          try clear p6
                                          try clear p64
                                          try clear q3
                                          try clear q32
                                          try clear q328
                                          try clear q358
                                          try clear q361
                                          obtain ⟨kq, x298_98, rfl, HA, HJ98, HO_36, HO_270, HR358_0, HB⟩ := hcut
                                          cases kq with
                                          | zero => exact absurd HA.out (by simp [laws_FnTrianglesAreCut.j8])
                                          | succ kj98 =>
                                            have H := HA.out
                                            clear HA
                                            simp only [laws_FnTrianglesAreCut.j8] at H
                                            by_cases c107 : x298_98 = true
                                            · subst c107
                                              have H1 : (none) = some r := by rw [if_pos rfl] at H; exact H
                                              clear H
                                              have H := H1
                                              clear H1
                                              exact absurd H (by simp)
                                            · replace c107 := Bool.eq_false_iff.mpr c107
                                              subst c107
                                              have H1 : (if t359 = true then (laws_FnTrianglesAreCut.l1 kj98 l0 t346 t347 (wrap64 (x40_5 + 1)) t347 (t347.length : Int) (wrap64 (x272_5 + 1))) else (laws_FnTrianglesAreCut.l1 kj98 l0 t346 t347 x40_5 t347 (t347.length : Int) (wrap64 (x272_5 + 1)))) = some r := by rw [if_neg (show ¬ (false = true) by decide)] at H; exact H
                                              clear H
                                              have H := H1
                                              clear H1
                                              by_cases c108 : t359 = true
                                              · subst c108
                                                have H1 : (laws_FnTrianglesAreCut.l1 kj98 l0 t346 t347 (wrap64 (x40_5 + 1)) t347 (t347.length : Int) (wrap64 (x272_5 + 1))) = some r := by rw [if_pos rfl] at H; exact H
                                                clear H
                                                have H := H1
                                                clear H1
                                                have H' := Aside0.mk H
                                                clear H
                                                go_wp2
                                                go_roundg kj98
                                                case measure => have := HJ11.out; have := HJ36.out; have := HJ73.out; have := HJ82.out; have := HK5.out; have := HJ98.out; omega
                                                case rel => exact ⟨(wrap64 (x40_5 + 1)), (wrap64 (x272_5 + 1)), (by first | rfl | (simp; done) | (simp [*]; done) | (simp; decide) | (simp; unfold wrap64; omega)), (by first | rfl | (simp; done) | (simp [*]; done) | (simp; decide) | (simp; unfold wrap64; omega)), H', ⟨by have := HJ11.out; have := HJ36.out; have := HJ73.out; have := HJ82.out; have := HK5.out; have := HJ98.out; omega⟩, ⟨by (with_reducible repeat (first | apply Kd.S_alloc | apply Kd.S_drewN | apply Kd.S_drew)); exact HO_36.out⟩, ⟨by (with_reducible repeat (first | apply Kd.S_alloc | apply Kd.S_drewN | apply Kd.S_drew)); exact HO_270.out⟩, ⟨by repeat (first | (with_reducible first | exact HB.out | apply below_alloc | apply pw_below_drewN | apply below_drew1) | exact HB.out)⟩⟩
                                              · replace c108 := Bool.eq_false_iff.mpr c108
                                                subst c108
                                                have H1 : (laws_FnTrianglesAreCut.l1 kj98 l0 t346 t347 x40_5 t347 (t347.length : Int) (wrap64 (x272_5 + 1))) = some r := by rw [if_neg (show ¬ (false = true) by decide)] at H; exact H
                                                clear H
                                                have H := H1
                                                clear H1
                                                have H' := Aside0.mk H
                                                clear H
                                                go_wp2
                                                go_roundg kj98
                                                case measure => have := HJ11.out; have := HJ36.out; have := HJ73.out; have := HJ82.out; have := HK5.out; have := HJ98.out; omega
                                                case rel => exact ⟨(x40_5), (wrap64 (x272_5 + 1)), (by first | rfl | (simp; done) | (simp [*]; done) | (simp; decide) | (simp; unfold wrap64; omega)), (by first | rfl | (simp; done) | (simp [*]; done) | (simp; decide) | (simp; unfold wrap64; omega)), H', ⟨by have := HJ11.out; have := HJ36.out; have := HJ73.out; have := HJ82.out; have := HK5.out; have := HJ98.out; omega⟩, ⟨by (with_reducible repeat (first | apply Kd.S_alloc | apply Kd.S_drewN | apply Kd.S_drew)); exact HO_36.out⟩, ⟨by (with_reducible repeat (first | apply Kd.S_alloc | apply Kd.S_drewN | apply Kd.S_drew)); exact HO_270.out⟩, ⟨by repeat (first | (with_reducible first | exact HB.out | apply below_alloc | apply pw_below_drewN | apply below_drew1) | exact HB.out)⟩⟩
                                      · rw [if_neg c97] at H
                                        exact absurd H (by simp)
                                    · rw [if_neg c96] at H
                                      exact absurd H (by simp)
                                  · rw [if_neg c95] at H
                                    have c95b0 : decide (x272_5 < (t347.length : Int)) = false := decide_eq_false c95
                                    clear c95
                                    (first | rw [c95b0] | (simp only [i64_w, i32_w]; rw [c95b0]) | skip)
                                    replace H := Option.bind_eq_some_iff.mp H
                                    obtain ⟨⟨t356, t357⟩, A1090, H⟩ := H
                                    replace H : (if (t347.length : Int) = (wrap64 (t346 * t346)) then (if x40_5 = (wrap64 (Int.tdiv (wrap64 (t346 * (wrap64 (t346 + 1)))) 2)) then (if t357 = true then (if t356 = (wrap64 (Int.tdiv (wrap64 ((wrap64 (t346 + 1)) * (wrap64 (t346 + 2)))) 2)) then (laws_FnTrianglesAreCut.j9 k5 l0) else (none)) else (none)) else (none)) else (none)) = some r := H
                                    have A109 := Aside0.mk A1090
                                    clear A1090
                                    by_cases c110 : (t347.length : Int) = (wrap64 (t346 * t346))
                                    · rw [if_pos c110] at H
                                      have c110b0 : ((t347.length : Int) == (wrap64 (t346 * t346))) = true := beq_iff_eq.mpr c110
                                      have c110b1 : ((t347.length : Int) != (wrap64 (t346 * t346))) = false := bne_eq_false_iff_eq.mpr c110
                                      clear c110
                                      by_cases c111 : x40_5 = (wrap64 (Int.tdiv (wrap64 (t346 * (wrap64 (t346 + 1)))) 2))
                                      · rw [if_pos c111] at H
                                        have c111b0 : (x40_5 == (wrap64 (Int.tdiv (wrap64 (t346 * (wrap64 (t346 + 1)))) 2))) = true := beq_iff_eq.mpr c111
                                        have c111b1 : (x40_5 != (wrap64 (Int.tdiv (wrap64 (t346 * (wrap64 (t346 + 1)))) 2))) = false := bne_eq_false_iff_eq.mpr c111
                                        clear c111
                                        by_cases c112 : t357 = true
                                        · subst c112
                                          have H1 : (if t356 = (wrap64 (Int.tdiv (wrap64 ((wrap64 (t346 + 1)) * (wrap64 (t346 + 2)))) 2)) then (laws_FnTrianglesAreCut.j9 k5 l0) else (none)) = some r := by rw [if_pos rfl] at H; exact H
                                          clear H
                                          have H := H1
                                          clear H1
                                          by_cases c113 : t356 = (wrap64 (Int.tdiv (wrap64 ((wrap64 (t346 + 1)) * (wrap64 (t346 + 2)))) 2))
                                          · rw [if_pos c113] at H
                                            have c113b0 : (t356 == (wrap64 (Int.tdiv (wrap64 ((wrap64 (t346 + 1)) * (wrap64 (t346 + 2)))) 2))) = true := beq_iff_eq.mpr c113
                                            have c113b1 : (t356 != (wrap64 (Int.tdiv (wrap64 ((wrap64 (t346 + 1)) * (wrap64 (t346 + 2)))) 2))) = false := bne_eq_false_iff_eq.mpr c113
                                            clear c113
                                            have H' := Aside0.mk H
                                            clear H
                                            go_wp2_with (first | ((with_reducible refine gate_callee (f := 38) rfl ?_); refine goesL_ (some 305) rfl rfl Try.func38 (by kernel_rfl) rfl #[.int .i64 t346] rfl (by (try simp only [List.map_toArray, List.map_cons, List.map_nil]); first | done | rfl | (simp only [List.length_drop, List.length_take]; rfl)) ?_; (with_reducible refine (impl_CountPoints.calls t346 t356 true _ A109.out).mono ?_); rintro e w' ⟨rfl, ⟨nd, rfl⟩⟩; refine ⟨_, rfl, ?_⟩))
                                            refine Met.m (by assumption) (by kernel_rfl) ?rel
                                            case rel => exact ⟨_, H', ⟨by have := HJ11.out; have := HJ36.out; have := HJ73.out; have := HJ82.out; have := HK5.out; first | omega | exact Nat.le_refl _⟩, ⟨by repeat (first | (with_reducible first | exact HB.out | apply below_alloc | apply pw_below_drewN | apply below_drew1) | exact HB.out)⟩⟩
                                          · rw [if_neg c113] at H
                                            exact absurd H (by simp)
                                        · replace c112 := Bool.eq_false_iff.mpr c112
                                          subst c112
                                          have H1 : (none) = some r := by rw [if_neg (show ¬ (false = true) by decide)] at H; exact H
                                          clear H
                                          have H := H1
                                          clear H1
                                          exact absurd H (by simp)
                                      · rw [if_neg c111] at H
                                        exact absurd H (by simp)
                                    · rw [if_neg c110] at H
                                      exact absurd H (by simp)
                            · replace c93 := Bool.eq_false_iff.mpr c93
                              subst c93
                              have H1 : (laws_FnTrianglesAreCut.j9 kj82 l0) = some r := by rw [if_neg (show ¬ (false = true) by decide)] at H; exact H
                              clear H
                              have H := H1
                              clear H1
                              have H' := Aside0.mk H
                              clear H
                              go_wp2
                              refine Met.m (by assumption) (by kernel_rfl) ?rel
                              case rel => exact ⟨_, H', ⟨by have := HJ11.out; have := HJ36.out; have := HJ73.out; have := HJ82.out; first | omega | exact Nat.le_refl _⟩, ⟨by repeat (first | (with_reducible first | exact HB.out | apply below_alloc | apply pw_below_drewN | apply below_drew1) | exact HB.out)⟩⟩
                          case rest7 => as_aux_lemma =>
                            intro u_ wc hcut
                            dsimp only [zipR, Nat.reduceAdd]
                            clear HC92
                            try clear c1
                            try clear c2
                            try clear p2
                            try clear c3
                            try clear p3
                            try clear q3
                            try clear hx3
                            try clear c4
                            try clear c5
                            try clear c6
                            try clear p6
                            try clear c7
                            try clear c8
                            try clear c9
                            try clear c10
                            try clear c11
                            try clear c20
                            try clear c20b0
                            try clear c20b1
                            try clear c20b2
                            try clear c21
                            try clear c22
                            try clear c23
                            try clear c23b0
                            try clear c23b1
                            try clear c23b2
                            try clear c25
                            try clear c26
                            try clear c26b0
                            try clear c26b1
                            try clear c26b2
                            try clear c28
                            try clear c29
                            try clear c29b0
                            try clear c29b1
                            try clear c29b2
                            try clear p32
                            try clear q32
                            try clear hx32
                            try clear c35
                            try clear p35
                            try clear q35
                            try clear hx35
                            try clear c36
                            try clear p36
                            try clear q36
                            try clear hx36
                            try clear c38
                            try clear c43
                            try clear c44
                            try clear c44b0
                            try clear c44b1
                            try clear c46
                            try clear c50
                            try clear c53
                            try clear c54
                            try clear c55
                            try clear c56
                            try clear c56b0
                            try clear c57
                            try clear c57b0
                            try clear c58
                            try clear c58b0
                            try clear c59
                            try clear c60
                            try clear c61
                            try clear c62
                            try clear c63
                            try clear c64
                            try clear p64
                            try clear c65
                            try clear c65b0
                            try clear c65b1
                            try clear c66
                            try clear c66b0
                            try clear c66b1
                            try clear c67
                            try clear c68
                            try clear c69
                            try clear c71
                            try clear c78
                            try clear c78b0
                            try clear c78b1
                            try clear c78b2
                            try clear c79
                            try clear c87
                            try clear c87b0
                            try clear c87b1
                            try clear c87b2
                            try clear c91
                            try clear c93
                            try clear c95
                            try clear c95b0
                            try clear c96
                            try clear c96b0
                            try clear c97
                            try clear c97b0
                            try clear c101
                            try clear c102
                            try clear c102b0
                            try clear c104
                            try clear c104b0
                            try clear c105
                            try clear c105b0
                            try clear c107
                            try clear c108
                            try clear c110
                            try clear c110b0
                            try clear c110b1
                            try clear c111
                            try clear c111b0
                            try clear c111b1
                            try clear c112
                            try clear c113
                            try clear c113b0
                            try clear c113b1
                            try clear hx328_0
                            try clear hx358_0
                            try clear hx361_0
                            try clear p2
                            try clear p3
                            try clear p32
                            try clear p328
                            try clear p35
                            try clear p358
                            try clear p36
                            try clear p361
                            try clear p6
                            try clear p64
                            try clear q3
                            try clear q32
                            try clear q328
                            try clear q35
                            try clear q358
                            try clear q36
                            try clear q361
                            obtain ⟨kq, HA, HJ91, HB⟩ := hcut
                            cases kq with
                            | zero => exact absurd HA.out (by simp [laws_FnTrianglesAreCut.j9])
                            | succ kj91 =>
                              have H := HA.out
                              clear HA
                              simp only [laws_FnTrianglesAreCut.j9] at H
                              replace H := Option.bind_eq_some_iff.mp H
                              obtain ⟨⟨t363, t364, t365⟩, A1140, H⟩ := H
                              replace H : ((impl_CellsWith.f kj91 t363 t364 t365).bind fun bt366 => ((spec_CellsWith.f kj91 t363 t364 t365).bind fun bt370 => ((spec_DrawIsUpCell.f l0).bind fun bt374 => ((impl_IsUpCell.f kj91 bt374.1 bt374.2).bind fun bt376 => ((spec_IsUpCell.f kj91 bt374.1 bt374.2).bind fun bt378 => (if (bt366.2 == bt370.2) = true then ((laws_uSame.f kj91 bt366.1 bt370.1).bind fun t380 => (if t380 = true then (if (bt376.2 == bt378.2) = true then (some (bt376.1 == bt378.1)) else (none)) else (none))) else (none))))))) = some r := H
                              have A114 := Aside0.mk A1140
                              clear A1140
                              replace H := Option.bind_eq_some_iff.mp H
                              obtain ⟨⟨t366, t367⟩, A1150, H⟩ := H
                              replace H : ((spec_CellsWith.f kj91 t363 t364 t365).bind fun bt370 => ((spec_DrawIsUpCell.f l0).bind fun bt374 => ((impl_IsUpCell.f kj91 bt374.1 bt374.2).bind fun bt376 => ((spec_IsUpCell.f kj91 bt374.1 bt374.2).bind fun bt378 => (if (t367 == bt370.2) = true then ((laws_uSame.f kj91 t366 bt370.1).bind fun t380 => (if t380 = true then (if (bt376.2 == bt378.2) = true then (some (bt376.1 == bt378.1)) else (none)) else (none))) else (none)))))) = some r := H
                              have A115 := Aside0.mk A1150
                              clear A1150
                              replace H := Option.bind_eq_some_iff.mp H
                              obtain ⟨⟨t370, t371⟩, A1160, H⟩ := H
                              replace H : ((spec_DrawIsUpCell.f l0).bind fun bt374 => ((impl_IsUpCell.f kj91 bt374.1 bt374.2).bind fun bt376 => ((spec_IsUpCell.f kj91 bt374.1 bt374.2).bind fun bt378 => (if (t367 == t371) = true then ((laws_uSame.f kj91 t366 t370).bind fun t380 => (if t380 = true then (if (bt376.2 == bt378.2) = true then (some (bt376.1 == bt378.1)) else (none)) else (none))) else (none))))) = some r := H
                              have A116 := Aside0.mk A1160
                              clear A1160
                              replace H := Option.bind_eq_some_iff.mp H
                              obtain ⟨⟨t374, t375⟩, A1170, H⟩ := H
                              replace H : ((impl_IsUpCell.f kj91 t374 t375).bind fun bt376 => ((spec_IsUpCell.f kj91 t374 t375).bind fun bt378 => (if (t367 == t371) = true then ((laws_uSame.f kj91 t366 t370).bind fun t380 => (if t380 = true then (if (bt376.2 == bt378.2) = true then (some (bt376.1 == bt378.1)) else (none)) else (none))) else (none)))) = some r := H
                              have A117 := Aside0.mk A1170
                              clear A1170
                              replace H := Option.bind_eq_some_iff.mp H
                              obtain ⟨⟨t376, t377⟩, A1180, H⟩ := H
                              replace H : ((spec_IsUpCell.f kj91 t374 t375).bind fun bt378 => (if (t367 == t371) = true then ((laws_uSame.f kj91 t366 t370).bind fun t380 => (if t380 = true then (if (t377 == bt378.2) = true then (some (t376 == bt378.1)) else (none)) else (none))) else (none))) = some r := H
                              have A118 := Aside0.mk A1180
                              clear A1180
                              replace H := Option.bind_eq_some_iff.mp H
                              obtain ⟨⟨t378, t379⟩, A1190, H⟩ := H
                              replace H : (if (t367 == t371) = true then ((laws_uSame.f kj91 t366 t370).bind fun t380 => (if t380 = true then (if (t377 == t379) = true then (some (t376 == t378)) else (none)) else (none))) else (none)) = some r := H
                              have A119 := Aside0.mk A1190
                              clear A1190
                              by_cases c120 : (t367 == t371) = true
                              · rw [if_pos c120] at H
                                have c120b0 : (t367 == t371) = true := c120
                                (try (have c120b1 : decide (t367 = t371) = true := by simpa using c120))
                                (try (have c120b2 : (t367 == t371) = true := by simpa using c120))
                                clear c120
                                replace H := Option.bind_eq_some_iff.mp H
                                obtain ⟨t380, A1210, H⟩ := H
                                replace H : (if t380 = true then (if (t377 == t379) = true then (some (t376 == t378)) else (none)) else (none)) = some r := H
                                have A121 := Aside0.mk A1210
                                clear A1210
                                by_cases c122 : t380 = true
                                · subst c122
                                  have H1 : (if (t377 == t379) = true then (some (t376 == t378)) else (none)) = some r := by rw [if_pos rfl] at H; exact H
                                  clear H
                                  have H := H1
                                  clear H1
                                  by_cases c123 : (t377 == t379) = true
                                  · rw [if_pos c123] at H
                                    have c123b0 : (t377 == t379) = true := c123
                                    (try (have c123b1 : decide (t377 = t379) = true := by simpa using c123))
                                    (try (have c123b2 : (t377 == t379) = true := by simpa using c123))
                                    clear c123
                                    obtain rfl := Option.some.inj H
                                    go_wp2_with (first | ((with_reducible refine gate_callee (f := 73) rfl ?_); refine goesL_ (some 339) rfl rfl Try.func73 (by kernel_rfl) rfl #[.slice A0 l0.length c0] rfl (by (try simp only [List.map_toArray, List.map_cons, List.map_nil]); first | done | rfl | (simp only [List.length_drop, List.length_take]; rfl)) ?_; (with_reducible refine (spec_DrawCellsWith.calls _ _ l0 t363 t364 t365 _ ?side1 ?side2 A114.out).mono ?_); (case side1 => repeat (first | exact (Kd.C_below HR0.out HB.out) | (with_reducible refine Kd.C_alloc ?_ _) | (with_reducible refine Kd.C_drewN ?_ _) | (with_reducible refine Kd.C_drew ?_))); (case side2 => exact HC0.out); rintro e w124 ⟨rfl, hb⟩; refine ⟨_, rfl, ?_⟩; have n0_ := Aside0.mk (below_step (by repeat (first | (with_reducible first | exact HB.out | apply below_alloc | apply pw_below_drewN | apply below_drew1) | exact HB.out)) hb); clear HB; have HB := n0_; clear n0_; (try clear hb); (try clear hb2); (try clear hk); (try clear hi)) | ((with_reducible refine gate_callee (f := 64) rfl ?_); refine goesL_ (some 347) rfl rfl Try.func64 (by kernel_rfl) rfl #[.int .i64 t363, .int .i64 t364, .int .i64 t365] rfl (by (try simp only [List.map_toArray, List.map_cons, List.map_nil]); first | done | rfl | (simp only [List.length_drop, List.length_take]; rfl)) ?_; (with_reducible refine (impl_CellsWith.calls kj91 t363 t364 t365 t366 t367 _ A115.out).mono ?_); rintro e w125 ⟨v368, rfl, ho0, hb⟩; refine ⟨_, rfl, ?_⟩; have n0_ := Aside0.mk (Kd.R_lower ho0 (below_size (by repeat (first | (with_reducible first | exact HB.out | apply below_alloc | apply pw_below_drewN | apply below_drew1) | exact HB.out)))); have n1_ := Aside0.mk (below_step (by repeat (first | (with_reducible first | exact HB.out | apply below_alloc | apply pw_below_drewN | apply below_drew1) | exact HB.out)) hb); clear HB; have HO369 := n0_; have HB := n1_; clear n0_ n1_; (try clear hb); (try clear hb2); (try clear hk); (try clear hi); (try clear ho0)) | ((with_reducible refine gate_callee (f := 74) rfl ?_); refine goesL_ (some 354) rfl rfl Try.func74 (by kernel_rfl) rfl #[.int .i64 t363, .int .i64 t364, .int .i64 t365] rfl (by (try simp only [List.map_toArray, List.map_cons, List.map_nil]); first | done | rfl | (simp only [List.length_drop, List.length_take]; rfl)) ?_; (with_reducible refine (spec_CellsWith.calls kj91 t363 t364 t365 t370 t371 _ A116.out).mono ?_); rintro e w126 ⟨v372, rfl, ho0, hb⟩; refine ⟨_, rfl, ?_⟩; have n0_ := Aside0.mk (Kd.R_elder' (by (with_reducible repeat (first | apply Kd.R_alloc | apply Kd.R_drewN | apply Kd.R_drew)); exact HO369.out) (Kd.R_base ho0) hb); have n1_ := Aside0.mk (Kd.R_lower (Kd.R_new' ho0 (Kd.R_lt (by (with_reducible repeat (first | apply Kd.R_alloc | apply Kd.R_drewN | apply Kd.R_drew)); exact HO369.out))) (below_size (by repeat (first | (with_reducible first | exact HB.out | apply below_alloc | apply pw_below_drewN | apply below_drew1) | exact HB.out)))); have n2_ := Aside0.mk (below_step (by repeat (first | (with_reducible first | exact HB.out | apply below_alloc | apply pw_below_drewN | apply below_drew1) | exact HB.out)) hb); clear HO369; clear HB; have HO369 := n0_; have HO373 := n1_; have HB := n2_; clear n0_ n1_ n2_; (try clear hb); (try clear hb2); (try clear hk); (try clear hi); (try clear ho0)) | ((with_reducible refine gate_callee (f := 75) rfl ?_); refine goesL_ (some 359) rfl rfl Try.func75 (by kernel_rfl) rfl #[.slice A0 l0.length c0] rfl (by (try simp only [List.map_toArray, List.map_cons, List.map_nil]); first | done | rfl | (simp only [List.length_drop, List.length_take]; rfl)) ?_; (with_reducible refine (spec_DrawIsUpCell.calls _ _ l0 t374 t375 _ ?side1 ?side2 A117.out).mono ?_); (case side1 => repeat (first | exact (Kd.C_below HR0.out HB.out) | (with_reducible refine Kd.C_alloc ?_ _) | (with_reducible refine Kd.C_drewN ?_ _) | (with_reducible refine Kd.C_drew ?_))); (case side2 => exact HC0.out); rintro e w127 ⟨rfl, hb⟩; refine ⟨_, rfl, ?_⟩; have n0_ := Aside0.mk (Kd.R_below (by (with_reducible repeat (first | apply Kd.R_alloc | apply Kd.R_drewN | apply Kd.R_drew)); exact HO369.out) hb); have n1_ := Aside0.mk (Kd.R_below (by (with_reducible repeat (first | apply Kd.R_alloc | apply Kd.R_drewN | apply Kd.R_drew)); exact HO373.out) hb); have n2_ := Aside0.mk (below_step (by repeat (first | (with_reducible first | exact HB.out | apply below_alloc | apply pw_below_drewN | apply below_drew1) | exact HB.out)) hb); clear HO369; clear HO373; clear HB; have HO369 := n0_; have HO373 := n1_; have HB := n2_; clear n0_ n1_ n2_; (try clear hb); (try clear hb2); (try clear hk); (try clear hi)) | ((with_reducible refine gate_callee (f := 71) rfl ?_); refine goesL_ (some 365) rfl rfl Try.func71 (by kernel_rfl) rfl #[.int .i64 t374, .int .i64 t375] rfl (by (try simp only [List.map_toArray, List.map_cons, List.map_nil]); first | done | rfl | (simp only [List.length_drop, List.length_take]; rfl)) ?_; (with_reducible refine (impl_IsUpCell.calls kj91 t374 t375 t376 t377 _ A118.out).mono ?_); rintro e w128 ⟨rfl, hb⟩; refine ⟨_, rfl, ?_⟩; have n0_ := Aside0.mk (Kd.R_below (by (with_reducible repeat (first | apply Kd.R_alloc | apply Kd.R_drewN | apply Kd.R_drew)); exact HO369.out) hb); have n1_ := Aside0.mk (Kd.R_below (by (with_reducible repeat (first | apply Kd.R_alloc | apply Kd.R_drewN | apply Kd.R_drew)); exact HO373.out) hb); have n2_ := Aside0.mk (below_step (by repeat (first | (with_reducible first | exact HB.out | apply below_alloc | apply pw_below_drewN | apply below_drew1) | exact HB.out)) hb); clear HO369; clear HO373; clear HB; have HO369 := n0_; have HO373 := n1_; have HB := n2_; clear n0_ n1_ n2_; (try clear hb); (try clear hb2); (try clear hk); (try clear hi)) | ((with_reducible refine gate_callee (f := 76) rfl ?_); refine goesL_ (some 371) rfl rfl Try.func76 (by kernel_rfl) rfl #[.int .i64 t374, .int .i64 t375] rfl (by (try simp only [List.map_toArray, List.map_cons, List.map_nil]); first | done | rfl | (simp only [List.length_drop, List.length_take]; rfl)) ?_; (with_reducible refine (spec_IsUpCell.calls kj91 t374 t375 t378 t379 _ A119.out).mono ?_); rintro e w129 ⟨rfl, hb⟩; refine ⟨_, rfl, ?_⟩; have n0_ := Aside0.mk (Kd.R_below (by (with_reducible repeat (first | apply Kd.R_alloc | apply Kd.R_drewN | apply Kd.R_drew)); exact HO369.out) hb); have n1_ := Aside0.mk (Kd.R_below (by (with_reducible repeat (first | apply Kd.R_alloc | apply Kd.R_drewN | apply Kd.R_drew)); exact HO373.out) hb); have n2_ := Aside0.mk (below_step (by repeat (first | (with_reducible first | exact HB.out | apply below_alloc | apply pw_below_drewN | apply below_drew1) | exact HB.out)) hb); clear HO369; clear HO373; clear HB; have HO369 := n0_; have HO373 := n1_; have HB := n2_; clear n0_ n1_ n2_; (try clear hb); (try clear hb2); (try clear hk); (try clear hi); obtain ⟨Ao130, co130, eo130⟩ := Kd.R_slice HO369.out; subst eo130; obtain ⟨Ao131, co131, eo131⟩ := Kd.R_slice HO373.out; subst eo131) | (go_at_call 27; (with_reducible refine (laws_uSame.calls kj91 _ _ t366 _ _ t370 true _ ?side1 ?side2 ?side3 ?side4 A121.out).mono ?_); (case side1 => repeat (first | exact (Kd.R_reads' HO369.out).2.2 | (with_reducible refine Kd.C_alloc ?_ _) | (with_reducible refine Kd.C_drewN ?_ _) | (with_reducible refine Kd.C_drew ?_))); (case side2 => exact (Kd.R_reads' HO369.out).2.1); (case side3 => repeat (first | exact (Kd.R_reads' HO373.out).2.2 | (with_reducible refine Kd.C_alloc ?_ _) | (with_reducible refine Kd.C_drewN ?_ _) | (with_reducible refine Kd.C_drew ?_))); (case side4 => exact (Kd.R_reads' HO373.out).2.1); rintro e w' ⟨rfl, ⟨nd, rfl⟩⟩))
                                    go_ret
                                    exact ⟨by first | rfl | (simp [errW_none, errW_some] <;> rfl) | (simp [*, errW_none, errW_some] <;> rfl), by repeat (first | (with_reducible first | exact HB.out | apply below_alloc | apply pw_below_drewN | apply below_drew1) | exact HB.out)⟩
                                  · rw [if_neg c123] at H
                                    exact absurd H (by simp)
                                · replace c122 := Bool.eq_false_iff.mpr c122
                                  subst c122
                                  have H1 : (none) = some r := by rw [if_neg (show ¬ (false = true) by decide)] at H; exact H
                                  clear H
                                  have H := H1
                                  clear H1
                                  exact absurd H (by simp)
                              · rw [if_neg c120] at H
                                exact absurd H (by simp)
theorem laws_FnTrianglesAreCut.walk (P : laws_FnTrianglesAreCut.Pure) (a0 : Option Addr) (len0 cap0 : Nat) (z0 : List Int) (a1 : Option Addr) (len1 cap1 : Nat) (z1 : List Int) (w : World) (w0 : (a0 = none ∧ len0 = 0 ∧ cap0 = 0 ∧ z0 = []) ∨ ∃ x, a0 = some x ∧ len0 ≤ cap0 ∧ cap0 ≤ maxLen ∧ z0.length = cap0 ∧ (∀ i, i < z0.length → w.cell? (x.add i) = some (.int .u8 (z0.getD i 0))) ∧ ∀ n ∈ z0, (Lit.int .u8 n).wf = true) (y0 : len0 * 1 ≤ 140737488351232) (w1 : (a1 = none ∧ len1 = 0 ∧ cap1 = 0 ∧ z1 = []) ∨ ∃ x, a1 = some x ∧ len1 ≤ cap1 ∧ cap1 ≤ maxLen ∧ z1.length = cap1 ∧ (∀ i, i < z1.length → w.cell? (x.add i) = some (.int .u8 (z1.getD i 0))) ∧ ∀ n ∈ z1, (Lit.int .u8 n).wf = true) (y1 : len1 * 1 ≤ 140737488351232) :
    Calls Try.prog 7 #[.slice a0 len0 cap0, .slice a1 len1 cap1] w fun e w' => e = .returned (.bool true) ∧ Below w.heap.size w w' := by
  obtain ⟨l0, rfl, hr0, hm0, hw0, hc0⟩ := ReadsInt.ofRowC w0
  obtain ⟨l1, rfl, hr1, hm1, hw1, hc1⟩ := ReadsInt.ofRowC w1
  obtain ⟨k, h⟩ := P l0 l1 hm0 y0 hw0 hm1 y1 hw1
  refine (laws_FnTrianglesAreCut.calls k _ _ l0 _ _ l1 true w (Kd.C_of_reads (d := (0 : Int)) (h1 := fun _ => rfl) hr0) hc0 (Kd.C_of_reads (d := (0 : Int)) (h1 := fun _ => rfl) hr1) hc1 h).mono ?_
  rintro e w' ⟨rfl, hd⟩
  exact ⟨rfl, hd⟩
end Go.Proofs.Ytckiebdehlcjoaa.P
