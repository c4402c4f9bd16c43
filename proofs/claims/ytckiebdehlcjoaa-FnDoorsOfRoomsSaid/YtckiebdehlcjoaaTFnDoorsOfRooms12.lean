/- A part of the proof of the law FnDoorsOfRooms. -/
import Derived.Test.YtckiebdehlcjoaaTFnDoorsOfRooms11
namespace Go.Proofs.Ytckiebdehlcjoaa.P
open Go.Proofs.Ytckiebdehlcjoaa.Own
open Go.RowKit Go.Proofs.YtckiebdehlcjoaaW.PrintWords Go.Proofs.YtckiebdehlcjoaaW.PrintLast Go.Proofs.YtckiebdehlcjoaaW.PrintMore
attribute [local go_sem] max2_int min2_int max_two min_two max_three min_three max_four min_four   -- for this text's walks alone
set_option linter.unusedVariables false
set_option linter.unusedSimpArgs false
theorem N_swap0 {α β : Type} {d : Kd α} {d' : Kd β} {e e' base base' : Nat} {w : World} {ok A B : Nat → Prop} {v u : Value} {ys : List β} (h : Kd.N d e w base ok v []) (hu : Kd.N d' e' w base' (fun k => A k ∧ some k ≠ v.ownBlock ∧ B k) u ys) : Kd.N d e w base (fun k => ok k ∧ some k ≠ u.ownBlock) v [] := by
  obtain ⟨h0, rows, hl, hR, hf⟩ := h
  exact ⟨fun k hk => ⟨h0 k hk, fun he => (hu.1 k he.symm).2.1 (by rw [hk])⟩, rows, hl, hR, fun j x c hx => by simp at hx⟩
def impl_house_doors.l0 : Nat → List (List Int) → List (List Int) → Int → Int → Int → List Int → List (List Int) → List Int → Option ((List (List Int)))
  | 0, _, _, _, _, _, _, _, _ => none
  | k + 1, x6, x36, x37, x38, x191000, x191001, x191002, x191003 => if x38 < x37 then (if 0 ≤ x38 then (if x38 < (x36.length : Int) then (if 0 < ((rd_L2 x36 x38).length : Int) then (if 1 < ((rd_L2 x36 x38).length : Int) then ((impl_house_isDoor.f x191000 x191001 x191002 x191003 (rd (rd_L2 x36 x38) 0) (rd (rd_L2 x36 x38) 1)).bind fun t216 => (if t216 = true then (if x6.length < 5864062014805 then (impl_house_doors.l0 k (x6 ++ [rd_L2 x36 x38]) x36 x37 (wrap64 (x38 + 1)) x191000 x191001 x191002 x191003) else (none)) else (impl_house_doors.l0 k x6 x36 x37 (wrap64 (x38 + 1)) x191000 x191001 x191002 x191003))) else (none)) else (none)) else (none)) else (none)) else (some x6)
def impl_house_doors.f (k : Nat) (a0_0 : Int) (l0_1 : List Int) (l0_2 : List (List Int)) (l0_3 : List Int) (a1 : Int) : Option ((List (List Int))) := if 0 ≤ a1 then (if a1 < (l0_2.length : Int) then (if 0 < ((rd_L2 l0_2 a1).length : Int) then (if 1 < ((rd_L2 l0_2 a1).length : Int) then (if 2 < ((rd_L2 l0_2 a1).length : Int) then ((some (([(([rd (rd_L2 l0_2 a1) 0, rd (rd_L2 l0_2 a1) 1] : List Int)), (([rd (rd_L2 l0_2 a1) 0, rd (rd_L2 l0_2 a1) 2] : List Int)), (([rd (rd_L2 l0_2 a1) 1, rd (rd_L2 l0_2 a1) 2] : List Int))] : List (List Int)) : List (List Int))).bind fun y210 => (impl_house_doors.l0 k (([] : List (List Int))) y210 (y210.length : Int) 0 a0_0 l0_1 l0_2 l0_3)) else (none)) else (none)) else (none)) else (none)) else (none)
def impl_house_doors.T2 : Bool × List (List Nat × List Nat) := (true, [([], []), ([0], [0]), ([1], [1]), ([], []), ([3], [3]), ([4], [4]), ([2, 5], [2, 5]), ([], []), ([7], [7]), ([8], [8]), ([], []), ([10], [10]), ([11], [11]), ([9, 12], [9, 12]), ([], []), ([14], [14]), ([15], [15]), ([], []), ([17], [17]), ([18], [18]), ([16, 19], [16, 19]), ([6, 13, 20], [6, 13, 20]), ([21], [21]), ([], [])])
def impl_house_doors.B2 : List Nat := [0, 1, 3, 0, 8, 24, 63, 0, 128, 384, 0, 1024, 3072, 8064, 0, 16384, 49152, 0, 131072, 393216, 1032192, 2097151, 4194303, 0]
theorem impl_house_doors.tab2 : rtab .any (opsOf Try.f207 2) = impl_house_doors.T2 := by kernel_rfl
theorem impl_house_doors.bits2 : waitsOk impl_house_doors.T2.2 impl_house_doors.B2 = true := by kernel_rfl
def impl_house_doors.T5 : Bool × List (List Nat × List Nat) := (true, [([], []), ([], []), ([1], [1]), ([2], [2]), ([], []), ([4], [4]), ([5], [5]), ([0, 3, 6], [0, 3, 6])])
def impl_house_doors.B5 : List Nat := [0, 0, 2, 6, 0, 16, 48, 127]
theorem impl_house_doors.tab5 : rtab .any (opsOf Try.f207 5) = impl_house_doors.T5 := by kernel_rfl
theorem impl_house_doors.bits5 : waitsOk impl_house_doors.T5.2 impl_house_doors.B5 = true := by kernel_rfl
set_option maxHeartbeats 8000000 in
set_option maxRecDepth 100000 in
theorem impl_house_doors.calls (k : Nat) (a0_0 : Int) (A0_1 : Option Addr) (c0_1 : Nat) (l0_1 : List Int) (A0_2 : Option Addr) (c0_2 : Nat) (l0_2 : List (List Int)) (A0_3 : Option Addr) (c0_3 : Nat) (l0_3 : List Int) (a1 : Int) (r : List (List Int)) (w : World) (hr0_1 : Kd.C (Kd.int .i64) w A0_1 l0_1.length l0_1) (hc0_1 : l0_1.length ≤ c0_1) (hr0_2 : Kd.C (Kd.slice 3 (Kd.int .i64)) w A0_2 l0_2.length l0_2) (hc0_2 : l0_2.length ≤ c0_2) (hr0_3 : Kd.C (Kd.int .i64) w A0_3 l0_3.length l0_3) (hc0_3 : l0_3.length ≤ c0_3) (h : impl_house_doors.f k a0_0 l0_1 l0_2 l0_3 a1 = some r) :
  Calls Try.prog 207 #[.agg #[.int .i64 a0_0, .slice A0_1 l0_1.length c0_1, .slice A0_2 l0_2.length c0_2, .slice A0_3 l0_3.length c0_3], .int .i64 a1] w fun e w' => ∃ v0_ : Value, e = .returned (v0_) ∧ Kd.N (Kd.slice 3 (Kd.int .i64)) 22 w' w.heap.size (fun k_ => (w.heap.size ≤ k_)) v0_ r ∧ Below w.heap.size w w' := by
 have hu132 := Try.underlying132
 have HR0_1 := zA0 hr0_1
 have HC0_1 := zA0 hc0_1
 clear hr0_1 hc0_1
 have HR0_2 := zA0 hr0_2
 have HC0_2 := zA0 hc0_2
 clear hr0_2 hc0_2
 have HR0_3 := zA0 hr0_3
 have HC0_3 := zA0 hc0_3
 clear hr0_3 hc0_3
 have HB := zA0 (Below.refl w.heap.size w)
 have H : (if 0 ≤ a1 then (if a1 < (l0_2.length : Int) then (if 0 < ((rd_L2 l0_2 a1).length : Int) then (if 1 < ((rd_L2 l0_2 a1).length : Int) then (if 2 < ((rd_L2 l0_2 a1).length : Int) then ((some (([(([rd (rd_L2 l0_2 a1) 0, rd (rd_L2 l0_2 a1) 1] : List Int)), (([rd (rd_L2 l0_2 a1) 0, rd (rd_L2 l0_2 a1) 2] : List Int)), (([rd (rd_L2 l0_2 a1) 1, rd (rd_L2 l0_2 a1) 2] : List Int))] : List (List Int)) : List (List Int))).bind fun y210 => (impl_house_doors.l0 k (([] : List (List Int))) y210 (y210.length : Int) 0 a0_0 l0_1 l0_2 l0_3)) else (none)) else (none)) else (none)) else (none)) else (none)) = some r := h
 clear h
 by_cases c3 : 0 ≤ a1
 ·
  rw [if_pos c3] at H
  have c3b0 : decide (0 ≤ a1) = true := decide_eq_true c3
  clear c3
  by_cases c4 : a1 < (l0_2.length : Int)
  ·
   rw [if_pos c4] at H
   have c4b0 : decide (a1 < (l0_2.length : Int)) = true := decide_eq_true c4
   clear c4
   obtain ⟨y192, hy192⟩ : ∃ y_ : List (List Int), y_ = (([] : List (List Int))) := ⟨_, rfl⟩
   replace H : (if 0 < ((rd_L2 l0_2 a1).length : Int) then (if 1 < ((rd_L2 l0_2 a1).length : Int) then (if 2 < ((rd_L2 l0_2 a1).length : Int) then ((some (([(([rd (rd_L2 l0_2 a1) 0, rd (rd_L2 l0_2 a1) 1] : List Int)), (([rd (rd_L2 l0_2 a1) 0, rd (rd_L2 l0_2 a1) 2] : List Int)), (([rd (rd_L2 l0_2 a1) 1, rd (rd_L2 l0_2 a1) 2] : List Int))] : List (List Int)) : List (List Int))).bind fun y210 => (impl_house_doors.l0 k y192 y210 (y210.length : Int) 0 a0_0 l0_1 l0_2 l0_3)) else (none)) else (none)) else (none)) = some r := by first | (rw [hy192]; with_reducible exact H) | (have H2_ := (Option.bind_some _ _).symm.trans H; rw [hy192]; with_reducible exact H2_) | (have H2_ := (Option.bind_some _ _).symm.trans H; with_reducible exact H2_) | with_reducible exact H | (rw [hy192]; exact H) | exact H
   have Ny192 := zA0 hy192
   clear hy192
   by_cases c5 : 0 < ((rd_L2 l0_2 a1).length : Int)
   ·
    rw [if_pos c5] at H
    have c5b0 : decide (0 < ((rd_L2 l0_2 a1).length : Int)) = true := decide_eq_true c5
    have c5b1 : decide (0 < (rd_L2 l0_2 a1).length) = true := decide_eq_true (by omega)
    clear c5
    by_cases c6 : 1 < ((rd_L2 l0_2 a1).length : Int)
    ·
     rw [if_pos c6] at H
     have c6b0 : decide (1 < ((rd_L2 l0_2 a1).length : Int)) = true := decide_eq_true c6
     have c6b1 : decide (1 < (rd_L2 l0_2 a1).length) = true := decide_eq_true (by omega)
     clear c6
     obtain ⟨y197, hy197⟩ : ∃ y_ : List Int, y_ = (([rd (rd_L2 l0_2 a1) 0, rd (rd_L2 l0_2 a1) 1] : List Int)) := ⟨_, rfl⟩
     replace H : (if 2 < ((rd_L2 l0_2 a1).length : Int) then ((some (([y197, (([rd (rd_L2 l0_2 a1) 0, rd (rd_L2 l0_2 a1) 2] : List Int)), (([rd (rd_L2 l0_2 a1) 1, rd (rd_L2 l0_2 a1) 2] : List Int))] : List (List Int)) : List (List Int))).bind fun y210 => (impl_house_doors.l0 k y192 y210 (y210.length : Int) 0 a0_0 l0_1 l0_2 l0_3)) else (none)) = some r := by first | (rw [hy197]; with_reducible exact H) | (have H2_ := (Option.bind_some _ _).symm.trans H; rw [hy197]; with_reducible exact H2_) | (have H2_ := (Option.bind_some _ _).symm.trans H; with_reducible exact H2_) | with_reducible exact H | (rw [hy197]; exact H) | exact H
     have Ny197 := zA0 hy197
     clear hy197
     by_cases c7 : 2 < ((rd_L2 l0_2 a1).length : Int)
     ·
      rw [if_pos c7] at H
      have c7b0 : decide (2 < ((rd_L2 l0_2 a1).length : Int)) = true := decide_eq_true c7
      have c7b1 : decide (2 < (rd_L2 l0_2 a1).length) = true := decide_eq_true (by omega)
      clear c7
      obtain ⟨y202, hy202⟩ : ∃ y_ : List Int, y_ = (([rd (rd_L2 l0_2 a1) 0, rd (rd_L2 l0_2 a1) 2] : List Int)) := ⟨_, rfl⟩
      replace H : ((some (([y197, y202, (([rd (rd_L2 l0_2 a1) 1, rd (rd_L2 l0_2 a1) 2] : List Int))] : List (List Int)) : List (List Int))).bind fun y210 => (impl_house_doors.l0 k y192 y210 (y210.length : Int) 0 a0_0 l0_1 l0_2 l0_3)) = some r := by first | (rw [hy202]; with_reducible exact H) | (have H2_ := (Option.bind_some _ _).symm.trans H; rw [hy202]; with_reducible exact H2_) | (have H2_ := (Option.bind_some _ _).symm.trans H; with_reducible exact H2_) | with_reducible exact H | (rw [hy202]; exact H) | exact H
      have Ny202 := zA0 hy202
      clear hy202
      obtain ⟨y207, hy207⟩ : ∃ y_ : List Int, y_ = (([rd (rd_L2 l0_2 a1) 1, rd (rd_L2 l0_2 a1) 2] : List Int)) := ⟨_, rfl⟩
      replace H : ((some (([y197, y202, y207] : List (List Int)) : List (List Int))).bind fun y210 => (impl_house_doors.l0 k y192 y210 (y210.length : Int) 0 a0_0 l0_1 l0_2 l0_3)) = some r := by first | (rw [hy207]; with_reducible exact H) | (have H2_ := (Option.bind_some _ _).symm.trans H; rw [hy207]; with_reducible exact H2_) | (have H2_ := (Option.bind_some _ _).symm.trans H; with_reducible exact H2_) | with_reducible exact H | (rw [hy207]; exact H) | exact H
      have Ny207 := zA0 hy207
      clear hy207
      obtain ⟨y210, hy210⟩ : ∃ y_ : List (List Int), y_ = (([y197, y202, y207] : List (List Int))) := ⟨_, rfl⟩
      replace H : (impl_house_doors.l0 k y192 y210 (y210.length : Int) 0 a0_0 l0_1 l0_2 l0_3) = some r := by first | (rw [hy210]; with_reducible exact H) | (have H2_ := (Option.bind_some _ _).symm.trans H; rw [hy210]; with_reducible exact H2_) | (have H2_ := (Option.bind_some _ _).symm.trans H; with_reducible exact H2_) | with_reducible exact H | (rw [hy210]; exact H) | exact H
      have Ny210 := zA0 hy210
      clear hy210
      have H' := zA0 H
      clear H
      go_enter Try.func207, Try.ntmps207
      try go_wp2_with (first | ((with_reducible refine gate_dst (N := 2) rfl ?_); refine box_event ?hg (N := 2) ?hd (cs := #[.int .i64 a0_0, .slice A0_1 l0_1.length c0_1, .slice A0_2 l0_2.length c0_2, .slice A0_3 l0_3.length c0_3]) (t := 132) ?hr ?_; (case hd => rfl); (case hg => rfl); (case hr => first | (go_simp; done) | (go_simp; rfl)); intro gb190 hg w8 hbox hb; have n0_ := zA0 (below_step (zB HB) hb); have n1_ := zA0 (hbox); have n2_ := zA0 ((by rw [hg]; exact (below_size (zB HB)) : w.heap.size ≤ gb190)); have n3_ := zA0 ((by rw [hg]; exact (below_size (zB HB)) : w.heap.size ≤ gb190)); replace HB := n0_; have BK190 := n1_; have GW190 := n2_; have GE190 := n3_; clear n0_ n1_ n2_ n3_; clear hb hbox hg; have hcz9_0 : w8.cell? ⟨gb190, 0, none⟩ = some (.int .i64 a0_0) := (blk_cell BK190.out 0).trans rfl; have hcz9_1 : w8.cell? ⟨gb190, 1, none⟩ = some (.slice A0_1 l0_1.length c0_1) := (blk_cell BK190.out 1).trans rfl; have hcz9_2 : w8.cell? ⟨gb190, 2, none⟩ = some (.slice A0_2 l0_2.length c0_2) := (blk_cell BK190.out 2).trans rfl; have hcz9_3 : w8.cell? ⟨gb190, 3, none⟩ = some (.slice A0_3 l0_3.length c0_3) := (blk_cell BK190.out 3).trans rfl; have hfz9_0 := blk_frozen BK190.out 0; have hfz9_1 := blk_frozen BK190.out 1; have hfz9_2 := blk_frozen BK190.out 2; have hfz9_3 := blk_frozen BK190.out 3; have p191 : 0 ≤ (a1 : Int) := of_decide_eq_true (by first | (with_reducible assumption) | assumption); have q191 : a1 < (l0_2.length : Int) := of_decide_eq_true (by first | (with_reducible assumption) | assumption); obtain ⟨ad191, A191_0, c191_0, e191, hx191_0, hl191_0, hi191_0⟩ := at_L2 HR0_2.out a1 p191 q191; cases e191; replace hx191_0 := (HB.out.cell (World.block_lt_of_cell? w _ hx191_0)).trans hx191_0; have HR191_0 := zA0 hi191_0; have HC191_0 := zA0 hl191_0; clear hi191_0 hl191_0; replace p191 := eq_true p191; replace q191 := eq_true q191) | ((with_reducible refine gate_dst (N := 14) rfl ?_); refine Kd.N_lit (Kd.slice 3 (Kd.int .i64)) _ 22 ?hg (N' := 14) ?hd (xs := ([] : List (List Int))) (inner := []) (ok := (fun k_ => (w.heap.size ≤ k_) ∧ k_ ≠ gb190)) (okp := (fun k_ => (w.heap.size ≤ k_) ∧ k_ ≠ gb190)) ?hr ?hp (fun _ hk => hk) ((show ∀ k_, w8.heap.size ≤ k_ → (fun k_ => (w.heap.size ≤ k_) ∧ k_ ≠ gb190) k_ from fun k_ hk => ⟨(Nat.le_trans (below_size (by repeat (first | (with_reducible first | exact HB.out | apply zpA | apply zpN | apply zpD | refine below_set ?_ GE190.out) | exact HB.out))) hk), Kd.freshB (g := gb190) (o := .cells #[.int .i64 a0_0, .slice A0_1 l0_1.length c0_1, .slice (some ad191) l0_2.length c0_2, .slice A0_3 l0_3.length c0_3] 132 (0, 0)) (zQ BK190) k_ hk⟩) _ (Nat.le_refl _)) (Below.refl _ _) (Nat.le_refl _) (by simp) ?_; (case hd => rfl); (case hg => rfl); (case hr => first | (go_simp; done) | (go_simp; rfl)); (case hp => exact (Reps.none _ _)); intro v193 w10 ho11 hb hg_ hnew_; clear hg_ hnew_; (first | rw [← Ny192.out] at ho11 | (simp only [Int.reduceToNat] at ho11; rw [← Ny192.out] at ho11)); have n0_ := zA0 (Kd.N_lower ho11 (below_size (by repeat (first | (with_reducible first | exact HB.out | apply zpA | apply zpN | apply zpD | refine below_set ?_ GE190.out) | exact HB.out)))); have n1_ := zA0 (blk_below (g := gb190) (o := .cells #[.int .i64 a0_0, .slice A0_1 l0_1.length c0_1, .slice (some ad191) l0_2.length c0_2, .slice A0_3 l0_3.length c0_3] 132 (0, 0)) (zQ BK190) hb); have n2_ := zA0 (below_step (by repeat (first | (with_reducible first | exact HB.out | apply zpA | apply zpN | apply zpD | refine below_set ?_ GE190.out) | exact HB.out)) hb); have HO194 := n0_; replace BK190 := n1_; replace HB := n2_; clear n0_ n1_ n2_; clear hb ho11))
      have n0_ := zA0 (znD HO194.out)
      have n1_ := zA0 (blk_drew BK190.out)
      have n2_ := zA0 (zpD HB.out)
      replace HO194 := n0_; replace BK190 := n1_; replace HB := n2_; clear n0_ n1_ n2_
      have p195 : 0 ≤ (0 : Int) := (by omega)
      have q195 : 0 < ((rd_L2 l0_2 a1).length : Int) := of_decide_eq_true (by first | (with_reducible assumption) | assumption)
      obtain ⟨ad195, e195, hx195_0⟩ := Kd.at_int HR191_0.out 0 p195 q195
      have hw195_0 := hx195_0
      (try rw [show ((0 : Int)).toNat = 0 from rfl] at hw195_0)
      (try rw [show 0 * 1 = 0 from rfl] at hw195_0)
      (try rw [Addr.add_zero'] at hw195_0)
      cases e195
      have qi195 : (0 < (rd_L2 l0_2 a1).length) = True := eq_true (by omega)
      (try rw [show ((0 : Int)).toNat = 0 from rfl] at hx195_0)
      (try rw [Addr.add_zero'] at hx195_0)
      replace hx195_0 := (HB.out.cell (World.block_lt_of_cell? w _ hx195_0)).trans hx195_0
      replace p195 := eq_true p195
      replace q195 := eq_true q195
      have p196 : 0 ≤ (1 : Int) := (by omega)
      have q196 : 1 < ((rd_L2 l0_2 a1).length : Int) := of_decide_eq_true (by first | (with_reducible assumption) | assumption)
      obtain ⟨ad196, e196, hx196_0⟩ := Kd.at_int HR191_0.out 1 p196 q196
      have hw196_0 := hx196_0
      (try rw [show ((1 : Int)).toNat = 1 from rfl] at hw196_0)
      (try rw [show 1 * 1 = 1 from rfl] at hw196_0)
      (try simp only [Nat.reduceMul, Nat.reduceEqDiff, Go.Addr.add, ↓reduceIte] at hw196_0)
      obtain rfl : ad195 = ad196 := (by injection e196)
      (try simp only [show (1 : Int).toNat = 1 from rfl, Nat.reduceMul, Nat.reduceEqDiff, Go.Addr.add, ↓reduceIte] at hx196_0)
      have qi196 : (1 < (rd_L2 l0_2 a1).length) = True := eq_true (by omega)
      (try rw [show ((1 : Int)).toNat = 1 from rfl] at hx196_0)
      replace hx196_0 := (HB.out.cell (World.block_lt_of_cell? w _ hx196_0)).trans hx196_0
      replace p196 := eq_true p196
      replace q196 := eq_true q196
      have p200 : 0 ≤ (0 : Int) := (by omega)
      have q200 : 0 < ((rd_L2 l0_2 a1).length : Int) := of_decide_eq_true (by first | (with_reducible assumption) | assumption)
      obtain ⟨ad200, e200, hx200_0⟩ := Kd.at_int HR191_0.out 0 p200 q200
      have hw200_0 := hx200_0
      (try rw [show ((0 : Int)).toNat = 0 from rfl] at hw200_0)
      (try rw [show 0 * 1 = 0 from rfl] at hw200_0)
      (try rw [Addr.add_zero'] at hw200_0)
      obtain rfl : ad195 = ad200 := (by injection e200)
      have qi200 : (0 < (rd_L2 l0_2 a1).length) = True := eq_true (by omega)
      (try rw [show ((0 : Int)).toNat = 0 from rfl] at hx200_0)
      (try rw [Addr.add_zero'] at hx200_0)
      replace hx200_0 := (HB.out.cell (World.block_lt_of_cell? w _ hx200_0)).trans hx200_0
      replace p200 := eq_true p200
      replace q200 := eq_true q200
      have p201 : 0 ≤ (2 : Int) := (by omega)
      have q201 : 2 < ((rd_L2 l0_2 a1).length : Int) := of_decide_eq_true (by first | (with_reducible assumption) | assumption)
      obtain ⟨ad201, e201, hx201_0⟩ := Kd.at_int HR191_0.out 2 p201 q201
      have hw201_0 := hx201_0
      (try rw [show ((2 : Int)).toNat = 2 from rfl] at hw201_0)
      (try rw [show 2 * 1 = 2 from rfl] at hw201_0)
      (try simp only [Nat.reduceMul, Nat.reduceEqDiff, Go.Addr.add, ↓reduceIte] at hw201_0)
      obtain rfl : ad195 = ad201 := (by injection e201)
      (try simp only [show (2 : Int).toNat = 2 from rfl, Nat.reduceMul, Nat.reduceEqDiff, Go.Addr.add, ↓reduceIte] at hx201_0)
      have qi201 : (2 < (rd_L2 l0_2 a1).length) = True := eq_true (by omega)
      (try rw [show ((2 : Int)).toNat = 2 from rfl] at hx201_0)
      replace hx201_0 := (HB.out.cell (World.block_lt_of_cell? w _ hx201_0)).trans hx201_0
      replace p201 := eq_true p201
      replace q201 := eq_true q201
      have p205 : 0 ≤ (1 : Int) := (by omega)
      have q205 : 1 < ((rd_L2 l0_2 a1).length : Int) := of_decide_eq_true (by first | (with_reducible assumption) | assumption)
      obtain ⟨ad205, e205, hx205_0⟩ := Kd.at_int HR191_0.out 1 p205 q205
      have hw205_0 := hx205_0
      (try rw [show ((1 : Int)).toNat = 1 from rfl] at hw205_0)
      (try rw [show 1 * 1 = 1 from rfl] at hw205_0)
      (try simp only [Nat.reduceMul, Nat.reduceEqDiff, Go.Addr.add, ↓reduceIte] at hw205_0)
      obtain rfl : ad195 = ad205 := (by injection e205)
      (try simp only [show (1 : Int).toNat = 1 from rfl, Nat.reduceMul, Nat.reduceEqDiff, Go.Addr.add, ↓reduceIte] at hx205_0)
      have qi205 : (1 < (rd_L2 l0_2 a1).length) = True := eq_true (by omega)
      (try rw [show ((1 : Int)).toNat = 1 from rfl] at hx205_0)
      replace hx205_0 := (HB.out.cell (World.block_lt_of_cell? w _ hx205_0)).trans hx205_0
      replace p205 := eq_true p205
      replace q205 := eq_true q205
      have p206 : 0 ≤ (2 : Int) := (by omega)
      have q206 : 2 < ((rd_L2 l0_2 a1).length : Int) := of_decide_eq_true (by first | (with_reducible assumption) | assumption)
      obtain ⟨ad206, e206, hx206_0⟩ := Kd.at_int HR191_0.out 2 p206 q206
      have hw206_0 := hx206_0
      (try rw [show ((2 : Int)).toNat = 2 from rfl] at hw206_0)
      (try rw [show 2 * 1 = 2 from rfl] at hw206_0)
      (try simp only [Nat.reduceMul, Nat.reduceEqDiff, Go.Addr.add, ↓reduceIte] at hw206_0)
      obtain rfl : ad195 = ad206 := (by injection e206)
      (try simp only [show (2 : Int).toNat = 2 from rfl, Nat.reduceMul, Nat.reduceEqDiff, Go.Addr.add, ↓reduceIte] at hx206_0)
      have qi206 : (2 < (rd_L2 l0_2 a1).length) = True := eq_true (by omega)
      (try rw [show ((2 : Int)).toNat = 2 from rfl] at hx206_0)
      replace hx206_0 := (HB.out.cell (World.block_lt_of_cell? w _ hx206_0)).trans hx206_0
      replace p206 := eq_true p206
      replace q206 := eq_true q206
      refine start_ (n := 24) (S := fun w' => True) (ds := []) #[false, false, false, false, false, false, false, false, false, false, false, false, false, false, false, false, false, false, false, false, false, false, false, false] (by kernel_rfl) rfl rfl trivial (fun hHeld => ?_); refine with_tabW impl_house_doors.tab2 impl_house_doors.bits2 (fun HT_ HW_ => ?_)
      generalize w10.drew = w12 at HO194 BK190 HB hx195_0 hx196_0 hx200_0 hx201_0 hx205_0 hx206_0 hHeld ⊢
      refine pure_ (i := 0) (N := some 15) (v := ?_) (a' := ?_) #[true, false, false, false, false, false, false, false, false, false, false, false, false, false, false, false, false, false, false, false, false, false, false, false] rfl rfl (any_of HT_.out (by kernel_rfl)) (fun _ _ _ h => h) (Or.inl ⟨by rfl, ?_⟩) ?_ ?_
      rotate_left
      ·
       intro w'
       go_simp
       with_reducible rfl
      rotate_left
      ·
       simp only [Act.put, List.setIfInBounds_toArray, List.set_cons_zero, List.set_cons_succ, i64_w, i32_w]
       rfl
      refine pure_ (i := 3) (N := some 18) (v := ?_) (a' := ?_) #[true, false, false, true, false, false, false, false, false, false, false, false, false, false, false, false, false, false, false, false, false, false, false, false] rfl rfl (any_of HT_.out (by kernel_rfl)) (fun _ _ _ h => h) (Or.inl ⟨by rfl, ?_⟩) ?_ ?_
      rotate_left
      ·
       intro w'
       go_simp
       with_reducible rfl
      rotate_left
      ·
       simp only [Act.put, List.setIfInBounds_toArray, List.set_cons_zero, List.set_cons_succ, i64_w, i32_w]
       rfl
      refine pure_ (i := 7) (N := some 22) (v := ?_) (a' := ?_) #[true, false, false, true, false, false, false, true, false, false, false, false, false, false, false, false, false, false, false, false, false, false, false, false] rfl rfl (any_of HT_.out (by kernel_rfl)) (fun _ _ _ h => h) (Or.inl ⟨by rfl, ?_⟩) ?_ ?_
      rotate_left
      ·
       intro w'
       go_simp
       with_reducible rfl
      rotate_left
      ·
       simp only [Act.put, List.setIfInBounds_toArray, List.set_cons_zero, List.set_cons_succ, i64_w, i32_w]
       rfl
      refine pure_ (i := 10) (N := some 25) (v := ?_) (a' := ?_) #[true, false, false, true, false, false, false, true, false, false, true, false, false, false, false, false, false, false, false, false, false, false, false, false] rfl rfl (any_of HT_.out (by kernel_rfl)) (fun _ _ _ h => h) (Or.inl ⟨by rfl, ?_⟩) ?_ ?_
      rotate_left
      ·
       intro w'
       go_simp
       with_reducible rfl
      rotate_left
      ·
       simp only [Act.put, List.setIfInBounds_toArray, List.set_cons_zero, List.set_cons_succ, i64_w, i32_w]
       rfl
      refine pure_ (i := 14) (N := some 29) (v := ?_) (a' := ?_) #[true, false, false, true, false, false, false, true, false, false, true, false, false, false, true, false, false, false, false, false, false, false, false, false] rfl rfl (any_of HT_.out (by kernel_rfl)) (fun _ _ _ h => h) (Or.inl ⟨by rfl, ?_⟩) ?_ ?_
      rotate_left
      ·
       intro w'
       go_simp
       with_reducible rfl
      rotate_left
      ·
       simp only [Act.put, List.setIfInBounds_toArray, List.set_cons_zero, List.set_cons_succ, i64_w, i32_w]
       rfl
      refine pure_ (i := 17) (N := some 32) (v := ?_) (a' := ?_) #[true, false, false, true, false, false, false, true, false, false, true, false, false, false, true, false, false, true, false, false, false, false, false, false] rfl rfl (any_of HT_.out (by kernel_rfl)) (fun _ _ _ h => h) (Or.inl ⟨by rfl, ?_⟩) ?_ ?_
      rotate_left
      ·
       intro w'
       go_simp
       with_reducible rfl
      rotate_left
      ·
       simp only [Act.put, List.setIfInBounds_toArray, List.set_cons_zero, List.set_cons_succ, i64_w, i32_w]
       rfl
      refine pure_ (i := 23) (N := some 38) (v := ?_) (a' := ?_) #[true, false, false, true, false, false, false, true, false, false, true, false, false, false, true, false, false, true, false, false, false, false, false, true] rfl rfl (any_of HT_.out (by kernel_rfl)) (fun _ _ _ h => h) (Or.inl ⟨by rfl, ?_⟩) ?_ ?_
      rotate_left
      ·
       intro w'
       go_simp
       with_reducible rfl
      rotate_left
      ·
       simp only [Act.put, List.setIfInBounds_toArray, List.set_cons_zero, List.set_cons_succ, i64_w, i32_w]
       rfl
      refine inv_at [1, 2, 4, 5, 6, 8, 9, 11, 12, 13, 15, 16, 18, 19, 20, 21, 22] (fun a0_ b a w' => ∃ (v198 : Value) (v203 : Value) (v208 : Value) (v211 : Value), a = putSel a0_ b [(1, 16, .pointer (some ad195)), (2, 17, .int .i64 (rd (rd_L2 l0_2 a1) 0)), (4, 19, .pointer (some (ad195.add 1))), (5, 20, .int .i64 (rd (rd_L2 l0_2 a1) 1)), (6, 21, v198), (8, 23, .pointer (some ad195)), (9, 24, .int .i64 (rd (rd_L2 l0_2 a1) 0)), (11, 26, .pointer (some (ad195.add 2))), (12, 27, .int .i64 (rd (rd_L2 l0_2 a1) 2)), (13, 28, v203), (15, 30, .pointer (some (ad195.add 1))), (16, 31, .int .i64 (rd (rd_L2 l0_2 a1) 1)), (18, 33, .pointer (some (ad195.add 2))), (19, 34, .int .i64 (rd (rd_L2 l0_2 a1) 2)), (20, 35, v208), (21, 36, v211), (22, 37, .int .i64 (y210.length : Int))] ∧ (Kd.N (Kd.slice 3 (Kd.int .i64)) 22 w' w.heap.size (fun k_ => (w.heap.size ≤ k_) ∧ k_ ≠ gb190) v193 y192) ∧ (w'.heap[gb190]? = some (.cells #[.int .i64 a0_0, .slice A0_1 l0_1.length c0_1, .slice (some ad191) l0_2.length c0_2, .slice A0_3 l0_3.length c0_3] 132 (0, 0))) ∧ (Below w.heap.size w w') ∧ (b 6 = true → b 21 = false → Kd.R (Kd.int .i64) 3 w' w.heap.size (fun k_ => (w.heap.size ≤ k_)) v198 y197) ∧ (b 13 = true → b 21 = false → Kd.R (Kd.int .i64) 3 w' w.heap.size (fun k_ => (w.heap.size ≤ k_)) v203 y202) ∧ (b 20 = true → b 21 = false → Kd.R (Kd.int .i64) 3 w' w.heap.size (fun k_ => (w.heap.size ≤ k_)) v208 y207) ∧ (b 21 = true → Kd.N (Kd.slice 3 (Kd.int .i64)) 22 w' w.heap.size (fun k_ => (w.heap.size ≤ k_) ∧ some k_ ≠ (v193 : Value).ownBlock ∧ k_ ≠ gb190) v211 y210)) HT_.out HW_.out (by kernel_rfl) (by kernel_rfl) ?_ ?_ ?_
      ·
       exact ⟨.bool false, .bool false, .bool false, .bool false, by simp only [putSel, Bool.false_eq_true, if_false], HO194.out, BK190.out, HB.out, fun h_ => absurd h_ (by decide), fun h_ => absurd h_ (by decide), fun h_ => absurd h_ (by decide), fun h_ => absurd h_ (by decide)⟩
      ·
       skip
       clear BK190 HB HO194
       refine steps_cons ?_ ?_
       ·
        rintro b a w' ⟨v198, v203, v208, v211, ha, Q_HO194, Q_BK190, Q_HB, Q_HO199, Q_HO204, Q_HO209, Q_HO212⟩ hb_ hon hoff
        refine ⟨_, rfl, fun K hK => ?_⟩
        have e15 : a.tmps[15]? = some (.slice (some ad195) (rd_L2 l0_2 a1).length c191_0) := by rw [ha]; exact (putSel_off rfl).trans rfl
        replace ha := zA0 ha
        have HO194 := zA0 Q_HO194
        have BK190 := zA0 Q_BK190
        have HB := zA0 Q_HB
        have hs0_ : w'.cell? ad195 = some (.int .i64 (rd (rd_L2 l0_2 a1) 0)) := ((HB.out.cell (World.block_lt_of_cell? w _ hw195_0)).trans hw195_0)
        refine value_ (w1 := w') (v := .pointer (some ad195)) (by rfl) rfl ?_ ?_
        ·
         go_simp
         (try simp only [i64_w])
         try rfl
        refine hK.out _ _ ⟨v198, v203, v208, v211, (by rw [ha.out]; exact putSel_upk 0 hb_ rfl rfl rfl), Q_HO194, Q_BK190, Q_HB, fun h0_ _ => absurd ((hoff 6 (by kernel_rfl)).symm.trans h0_) (by decide), Q_HO204, Q_HO209, fun h0_ => absurd ((hoff 21 (by kernel_rfl)).symm.trans h0_) (by decide)⟩
       refine steps_cons ?_ ?_
       ·
        rintro b a w' ⟨v198, v203, v208, v211, ha, Q_HO194, Q_BK190, Q_HB, Q_HO199, Q_HO204, Q_HO209, Q_HO212⟩ hb_ hon hoff
        refine ⟨_, rfl, fun K hK => ?_⟩
        have e16 : a.tmps[16]? = some (.pointer (some ad195)) := by rw [ha]; exact putSel_on (e := (1, 16, .pointer (some ad195))) 0 rfl rfl (hon 1 (by kernel_rfl)) rfl
        replace ha := zA0 ha
        have HO194 := zA0 Q_HO194
        have BK190 := zA0 Q_BK190
        have HB := zA0 Q_HB
        have hs0_ : w'.cell? ad195 = some (.int .i64 (rd (rd_L2 l0_2 a1) 0)) := ((HB.out.cell (World.block_lt_of_cell? w _ hw195_0)).trans hw195_0)
        refine value_ (w1 := w') (v := .int .i64 (rd (rd_L2 l0_2 a1) 0)) (by rfl) rfl ?_ ?_
        ·
         go_simp
         (try simp only [i64_w])
         try rfl
        refine hK.out _ _ ⟨v198, v203, v208, v211, (by rw [ha.out]; exact putSel_upk 1 hb_ rfl rfl rfl), Q_HO194, Q_BK190, Q_HB, fun h0_ _ => absurd ((hoff 6 (by kernel_rfl)).symm.trans h0_) (by decide), Q_HO204, Q_HO209, fun h0_ => absurd ((hoff 21 (by kernel_rfl)).symm.trans h0_) (by decide)⟩
       refine steps_cons ?_ ?_
       ·
        rintro b a w' ⟨v198, v203, v208, v211, ha, Q_HO194, Q_BK190, Q_HB, Q_HO199, Q_HO204, Q_HO209, Q_HO212⟩ hb_ hon hoff
        refine ⟨_, rfl, fun K hK => ?_⟩
        have e18 : a.tmps[18]? = some (.slice (some ad195) (rd_L2 l0_2 a1).length c191_0) := by rw [ha]; exact (putSel_off rfl).trans rfl
        replace ha := zA0 ha
        have HO194 := zA0 Q_HO194
        have BK190 := zA0 Q_BK190
        have HB := zA0 Q_HB
        have hs1_ : w'.cell? ⟨ad195.block, ad195.off + 1, none⟩ = some (.int .i64 (rd (rd_L2 l0_2 a1) 1)) := ((HB.out.cell (World.block_lt_of_cell? w _ hw196_0)).trans hw196_0)
        refine value_ (w1 := w') (v := .pointer (some (ad195.add 1))) (by rfl) rfl ?_ ?_
        ·
         go_simp
         (try simp only [i64_w])
         try rfl
        refine hK.out _ _ ⟨v198, v203, v208, v211, (by rw [ha.out]; exact putSel_upk 2 hb_ rfl rfl rfl), Q_HO194, Q_BK190, Q_HB, fun h0_ _ => absurd ((hoff 6 (by kernel_rfl)).symm.trans h0_) (by decide), Q_HO204, Q_HO209, fun h0_ => absurd ((hoff 21 (by kernel_rfl)).symm.trans h0_) (by decide)⟩
       refine steps_cons ?_ ?_
       ·
        rintro b a w' ⟨v198, v203, v208, v211, ha, Q_HO194, Q_BK190, Q_HB, Q_HO199, Q_HO204, Q_HO209, Q_HO212⟩ hb_ hon hoff
        refine ⟨_, rfl, fun K hK => ?_⟩
        have e19 : a.tmps[19]? = some (.pointer (some (ad195.add 1))) := by rw [ha]; exact putSel_on (e := (4, 19, .pointer (some (ad195.add 1)))) 2 rfl rfl (hon 4 (by kernel_rfl)) rfl
        replace ha := zA0 ha
        have HO194 := zA0 Q_HO194
        have BK190 := zA0 Q_BK190
        have HB := zA0 Q_HB
        have hs1_ : w'.cell? ⟨ad195.block, ad195.off + 1, none⟩ = some (.int .i64 (rd (rd_L2 l0_2 a1) 1)) := ((HB.out.cell (World.block_lt_of_cell? w _ hw196_0)).trans hw196_0)
        refine value_ (w1 := w') (v := .int .i64 (rd (rd_L2 l0_2 a1) 1)) (by rfl) rfl ?_ ?_
        ·
         go_simp
         (try simp only [i64_w])
         try rfl
        refine hK.out _ _ ⟨v198, v203, v208, v211, (by rw [ha.out]; exact putSel_upk 3 hb_ rfl rfl rfl), Q_HO194, Q_BK190, Q_HB, fun h0_ _ => absurd ((hoff 6 (by kernel_rfl)).symm.trans h0_) (by decide), Q_HO204, Q_HO209, fun h0_ => absurd ((hoff 21 (by kernel_rfl)).symm.trans h0_) (by decide)⟩
       refine steps_cons ?_ ?_
       ·
        rintro b a w' ⟨v198, v203, v208, v211, ha, Q_HO194, Q_BK190, Q_HB, Q_HO199, Q_HO204, Q_HO209, Q_HO212⟩ hb_ hon hoff
        refine ⟨_, rfl, fun K hK => ?_⟩
        have e17 : a.tmps[17]? = some (.int .i64 (rd (rd_L2 l0_2 a1) 0)) := by rw [ha]; exact putSel_on (e := (2, 17, .int .i64 (rd (rd_L2 l0_2 a1) 0))) 1 rfl rfl (hon 2 (by kernel_rfl)) rfl
        have e20 : a.tmps[20]? = some (.int .i64 (rd (rd_L2 l0_2 a1) 1)) := by rw [ha]; exact putSel_on (e := (5, 20, .int .i64 (rd (rd_L2 l0_2 a1) 1))) 3 rfl rfl (hon 5 (by kernel_rfl)) rfl
        replace ha := zA0 ha
        have HO194 := zA0 Q_HO194
        have BK190 := zA0 Q_BK190
        have HB := zA0 Q_HB
        refine Kd.R_lit_step (Kd.int .i64) _ 3 ?hg (N := 21) ?hd (xs := ([rd (rd_L2 l0_2 a1) 0, rd (rd_L2 l0_2 a1) 1] : List Int)) (inner := [.int .i64 (rd (rd_L2 l0_2 a1) 0), .int .i64 (rd (rd_L2 l0_2 a1) 1)]) (ok := fun _ => True) (okp := fun _ => True) ?hr ?hp (fun _ hk => hk) trivial (Below.refl _ _) (Nat.le_refl _) (by simp) ?_; (case hd => rfl); (case hg => rfl); (case hr => first | (go_simp; done) | (go_simp; rfl)); (case hp => exact (Reps.one (show Kd.M (Kd.int .i64) _ _ _ (rd (rd_L2 l0_2 a1) 0) [.int .i64 (rd (rd_L2 l0_2 a1) 0)] from rfl) (Reps.one (show Kd.M (Kd.int .i64) _ _ _ (rd (rd_L2 l0_2 a1) 1) [.int .i64 (rd (rd_L2 l0_2 a1) 1)] from rfl) (Reps.none _ _))))
        intro v198 w13 ho14 hb hg_ hnew_
        clear hg_ hnew_
        (first | rw [← Ny197.out] at ho14 | (simp only [Int.reduceToNat] at ho14; rw [← Ny197.out] at ho14))
        have n0_ := zA0 (Kd.N_elder' (zN HO194) (Kd.R_base ho14) hb)
        have n1_ := zA0 (Kd.R_lower (Kd.R_newM (M := fun k_ => (w.heap.size ≤ k_)) ho14 (below_size (by repeat (first | (with_reducible first | exact HB.out | apply zpA | apply zpN | apply zpD | refine below_set ?_ GE190.out) | exact HB.out))) (fun k_ h_ => h_)) (below_size (by repeat (first | (with_reducible first | exact HB.out | apply zpA | apply zpN | apply zpD | refine below_set ?_ GE190.out) | exact HB.out))))
        have n2_ := zA0 (blk_below (g := gb190) (o := .cells #[.int .i64 a0_0, .slice A0_1 l0_1.length c0_1, .slice (some ad191) l0_2.length c0_2, .slice A0_3 l0_3.length c0_3] 132 (0, 0)) (zQ BK190) hb)
        have n3_ := zA0 (below_step (by repeat (first | (with_reducible first | exact HB.out | apply zpA | apply zpN | apply zpD | refine below_set ?_ GE190.out) | exact HB.out)) hb)
        have z_HO204 := fun (h0_ : b 13 = true) (h1_ : b 21 = false) => (show Kd.R (Kd.int .i64) 3 w13 w.heap.size (fun k_ => (w.heap.size ≤ k_)) v203 y202 from by first | exact (Kd.R_elder' (by (with_reducible repeat (first | apply zrA | apply zrN | apply zrD)); exact (Q_HO204 h0_ h1_)) (Kd.R_base ho14) hb) | exact Kd.R_mono (Kd.R_elder' (by (with_reducible repeat (first | apply zrA | apply zrN | apply zrD)); exact (Q_HO204 h0_ h1_)) (Kd.R_base ho14) hb) (fun _ h_ => by first | trivial | exact h_ | exact h_.1))
        have z_HO209 := fun (h0_ : b 20 = true) (h1_ : b 21 = false) => (show Kd.R (Kd.int .i64) 3 w13 w.heap.size (fun k_ => (w.heap.size ≤ k_)) v208 y207 from by first | exact (Kd.R_elder' (by (with_reducible repeat (first | apply zrA | apply zrN | apply zrD)); exact (Q_HO209 h0_ h1_)) (Kd.R_base ho14) hb) | exact Kd.R_mono (Kd.R_elder' (by (with_reducible repeat (first | apply zrA | apply zrN | apply zrD)); exact (Q_HO209 h0_ h1_)) (Kd.R_base ho14) hb) (fun _ h_ => by first | trivial | exact h_ | exact h_.1))
        replace HO194 := n0_; have HO199 := n1_; replace BK190 := n2_; replace HB := n3_; clear n0_ n1_ n2_ n3_
        clear hb ho14
        refine hK.out _ _ ⟨v198, v203, v208, v211, (by rw [ha.out]; exact putSel_upk 4 hb_ rfl rfl rfl), (by (with_reducible repeat (first | apply znA | apply znN | apply znD)); exact Kd.N_mono HO194.out (fun _ hk => by repeat' (first | exact hk | exact hk.1 | exact hk.2 | exact hk.1.1 | exact hk.1.2 | exact hk.2.1 | exact hk.2.2 | exact hk.1.1.1 | exact hk.1.1.2 | exact hk.1.2.1 | exact hk.1.2.2 | exact hk.2.1.1 | exact hk.2.1.2 | exact hk.2.2.1 | exact hk.2.2.2 | exact hk.1.1.1.1 | exact hk.1.1.1.2 | exact hk.1.1.2.1 | exact hk.1.1.2.2 | exact hk.1.2.1.1 | exact hk.1.2.1.2 | exact hk.1.2.2.1 | exact hk.1.2.2.2 | exact hk.2.2.2.1 | exact hk.2.2.2.2 | refine And.intro ?_ ?_))), (zQ BK190), (by repeat (first | (with_reducible first | exact HB.out | apply zpA | apply zpN | apply zpD | refine below_set ?_ GE190.out) | exact HB.out)), fun _ _ => (by (with_reducible repeat (first | apply zrA | apply zrN | apply zrD)); exact Kd.R_mono HO199.out (fun _ hk => hk.1)), z_HO204, z_HO209, fun h0_ => absurd ((hoff 21 (by kernel_rfl)).symm.trans h0_) (by decide)⟩
       refine steps_cons ?_ ?_
       ·
        rintro b a w' ⟨v198, v203, v208, v211, ha, Q_HO194, Q_BK190, Q_HB, Q_HO199, Q_HO204, Q_HO209, Q_HO212⟩ hb_ hon hoff
        refine ⟨_, rfl, fun K hK => ?_⟩
        have e22 : a.tmps[22]? = some (.slice (some ad195) (rd_L2 l0_2 a1).length c191_0) := by rw [ha]; exact (putSel_off rfl).trans rfl
        replace ha := zA0 ha
        have HO194 := zA0 Q_HO194
        have BK190 := zA0 Q_BK190
        have HB := zA0 Q_HB
        have hs2_ : w'.cell? ad195 = some (.int .i64 (rd (rd_L2 l0_2 a1) 0)) := ((HB.out.cell (World.block_lt_of_cell? w _ hw200_0)).trans hw200_0)
        refine value_ (w1 := w') (v := .pointer (some ad195)) (by rfl) rfl ?_ ?_
        ·
         go_simp
         (try simp only [i64_w])
         try rfl
        refine hK.out _ _ ⟨v198, v203, v208, v211, (by rw [ha.out]; exact putSel_upk 5 hb_ rfl rfl rfl), Q_HO194, Q_BK190, Q_HB, Q_HO199, fun h0_ _ => absurd ((hoff 13 (by kernel_rfl)).symm.trans h0_) (by decide), Q_HO209, fun h0_ => absurd ((hoff 21 (by kernel_rfl)).symm.trans h0_) (by decide)⟩
       refine steps_cons ?_ ?_
       ·
        rintro b a w' ⟨v198, v203, v208, v211, ha, Q_HO194, Q_BK190, Q_HB, Q_HO199, Q_HO204, Q_HO209, Q_HO212⟩ hb_ hon hoff
        refine ⟨_, rfl, fun K hK => ?_⟩
        have e23 : a.tmps[23]? = some (.pointer (some ad195)) := by rw [ha]; exact putSel_on (e := (8, 23, .pointer (some ad195))) 5 rfl rfl (hon 8 (by kernel_rfl)) rfl
        replace ha := zA0 ha
        have HO194 := zA0 Q_HO194
        have BK190 := zA0 Q_BK190
        have HB := zA0 Q_HB
        have hs2_ : w'.cell? ad195 = some (.int .i64 (rd (rd_L2 l0_2 a1) 0)) := ((HB.out.cell (World.block_lt_of_cell? w _ hw200_0)).trans hw200_0)
        refine value_ (w1 := w') (v := .int .i64 (rd (rd_L2 l0_2 a1) 0)) (by rfl) rfl ?_ ?_
        ·
         go_simp
         (try simp only [i64_w])
         try rfl
        refine hK.out _ _ ⟨v198, v203, v208, v211, (by rw [ha.out]; exact putSel_upk 6 hb_ rfl rfl rfl), Q_HO194, Q_BK190, Q_HB, Q_HO199, fun h0_ _ => absurd ((hoff 13 (by kernel_rfl)).symm.trans h0_) (by decide), Q_HO209, fun h0_ => absurd ((hoff 21 (by kernel_rfl)).symm.trans h0_) (by decide)⟩
       refine steps_cons ?_ ?_
       ·
        rintro b a w' ⟨v198, v203, v208, v211, ha, Q_HO194, Q_BK190, Q_HB, Q_HO199, Q_HO204, Q_HO209, Q_HO212⟩ hb_ hon hoff
        refine ⟨_, rfl, fun K hK => ?_⟩
        have e25 : a.tmps[25]? = some (.slice (some ad195) (rd_L2 l0_2 a1).length c191_0) := by rw [ha]; exact (putSel_off rfl).trans rfl
        replace ha := zA0 ha
        have HO194 := zA0 Q_HO194
        have BK190 := zA0 Q_BK190
        have HB := zA0 Q_HB
        have hs3_ : w'.cell? ⟨ad195.block, ad195.off + 2, none⟩ = some (.int .i64 (rd (rd_L2 l0_2 a1) 2)) := ((HB.out.cell (World.block_lt_of_cell? w _ hw201_0)).trans hw201_0)
        refine value_ (w1 := w') (v := .pointer (some (ad195.add 2))) (by rfl) rfl ?_ ?_
        ·
         go_simp
         (try simp only [i64_w])
         try rfl
        refine hK.out _ _ ⟨v198, v203, v208, v211, (by rw [ha.out]; exact putSel_upk 7 hb_ rfl rfl rfl), Q_HO194, Q_BK190, Q_HB, Q_HO199, fun h0_ _ => absurd ((hoff 13 (by kernel_rfl)).symm.trans h0_) (by decide), Q_HO209, fun h0_ => absurd ((hoff 21 (by kernel_rfl)).symm.trans h0_) (by decide)⟩
       refine steps_cons ?_ ?_
       ·
        rintro b a w' ⟨v198, v203, v208, v211, ha, Q_HO194, Q_BK190, Q_HB, Q_HO199, Q_HO204, Q_HO209, Q_HO212⟩ hb_ hon hoff
        refine ⟨_, rfl, fun K hK => ?_⟩
        have e26 : a.tmps[26]? = some (.pointer (some (ad195.add 2))) := by rw [ha]; exact putSel_on (e := (11, 26, .pointer (some (ad195.add 2)))) 7 rfl rfl (hon 11 (by kernel_rfl)) rfl
        replace ha := zA0 ha
        have HO194 := zA0 Q_HO194
        have BK190 := zA0 Q_BK190
        have HB := zA0 Q_HB
        have hs3_ : w'.cell? ⟨ad195.block, ad195.off + 2, none⟩ = some (.int .i64 (rd (rd_L2 l0_2 a1) 2)) := ((HB.out.cell (World.block_lt_of_cell? w _ hw201_0)).trans hw201_0)
        refine value_ (w1 := w') (v := .int .i64 (rd (rd_L2 l0_2 a1) 2)) (by rfl) rfl ?_ ?_
        ·
         go_simp
         (try simp only [i64_w])
         try rfl
        refine hK.out _ _ ⟨v198, v203, v208, v211, (by rw [ha.out]; exact putSel_upk 8 hb_ rfl rfl rfl), Q_HO194, Q_BK190, Q_HB, Q_HO199, fun h0_ _ => absurd ((hoff 13 (by kernel_rfl)).symm.trans h0_) (by decide), Q_HO209, fun h0_ => absurd ((hoff 21 (by kernel_rfl)).symm.trans h0_) (by decide)⟩
       refine steps_cons ?_ ?_
       ·
        rintro b a w' ⟨v198, v203, v208, v211, ha, Q_HO194, Q_BK190, Q_HB, Q_HO199, Q_HO204, Q_HO209, Q_HO212⟩ hb_ hon hoff
        refine ⟨_, rfl, fun K hK => ?_⟩
        have e24 : a.tmps[24]? = some (.int .i64 (rd (rd_L2 l0_2 a1) 0)) := by rw [ha]; exact putSel_on (e := (9, 24, .int .i64 (rd (rd_L2 l0_2 a1) 0))) 6 rfl rfl (hon 9 (by kernel_rfl)) rfl
        have e27 : a.tmps[27]? = some (.int .i64 (rd (rd_L2 l0_2 a1) 2)) := by rw [ha]; exact putSel_on (e := (12, 27, .int .i64 (rd (rd_L2 l0_2 a1) 2))) 8 rfl rfl (hon 12 (by kernel_rfl)) rfl
        replace ha := zA0 ha
        have HO194 := zA0 Q_HO194
        have BK190 := zA0 Q_BK190
        have HB := zA0 Q_HB
        refine Kd.R_lit_step (Kd.int .i64) _ 3 ?hg (N := 28) ?hd (xs := ([rd (rd_L2 l0_2 a1) 0, rd (rd_L2 l0_2 a1) 2] : List Int)) (inner := [.int .i64 (rd (rd_L2 l0_2 a1) 0), .int .i64 (rd (rd_L2 l0_2 a1) 2)]) (ok := fun _ => True) (okp := fun _ => True) ?hr ?hp (fun _ hk => hk) trivial (Below.refl _ _) (Nat.le_refl _) (by simp) ?_; (case hd => rfl); (case hg => rfl); (case hr => first | (go_simp; done) | (go_simp; rfl)); (case hp => exact (Reps.one (show Kd.M (Kd.int .i64) _ _ _ (rd (rd_L2 l0_2 a1) 0) [.int .i64 (rd (rd_L2 l0_2 a1) 0)] from rfl) (Reps.one (show Kd.M (Kd.int .i64) _ _ _ (rd (rd_L2 l0_2 a1) 2) [.int .i64 (rd (rd_L2 l0_2 a1) 2)] from rfl) (Reps.none _ _))))
        intro v203 w13 ho14 hb hg_ hnew_
        clear hg_ hnew_
        (first | rw [← Ny202.out] at ho14 | (simp only [Int.reduceToNat] at ho14; rw [← Ny202.out] at ho14))
        have n0_ := zA0 (Kd.N_elder' (zN HO194) (Kd.R_base ho14) hb)
        have n1_ := zA0 (Kd.R_lower (Kd.R_newM (M := fun k_ => (w.heap.size ≤ k_)) ho14 (below_size (by repeat (first | (with_reducible first | exact HB.out | apply zpA | apply zpN | apply zpD | refine below_set ?_ GE190.out) | exact HB.out))) (fun k_ h_ => h_)) (below_size (by repeat (first | (with_reducible first | exact HB.out | apply zpA | apply zpN | apply zpD | refine below_set ?_ GE190.out) | exact HB.out))))
        have n2_ := zA0 (blk_below (g := gb190) (o := .cells #[.int .i64 a0_0, .slice A0_1 l0_1.length c0_1, .slice (some ad191) l0_2.length c0_2, .slice A0_3 l0_3.length c0_3] 132 (0, 0)) (zQ BK190) hb)
        have n3_ := zA0 (below_step (by repeat (first | (with_reducible first | exact HB.out | apply zpA | apply zpN | apply zpD | refine below_set ?_ GE190.out) | exact HB.out)) hb)
        have z_HO199 := fun (h0_ : b 6 = true) (h1_ : b 21 = false) => (show Kd.R (Kd.int .i64) 3 w13 w.heap.size (fun k_ => (w.heap.size ≤ k_)) v198 y197 from by first | exact (Kd.R_elder' (by (with_reducible repeat (first | apply zrA | apply zrN | apply zrD)); exact (Q_HO199 h0_ h1_)) (Kd.R_base ho14) hb) | exact Kd.R_mono (Kd.R_elder' (by (with_reducible repeat (first | apply zrA | apply zrN | apply zrD)); exact (Q_HO199 h0_ h1_)) (Kd.R_base ho14) hb) (fun _ h_ => by first | trivial | exact h_ | exact h_.1))
        have z_HO209 := fun (h0_ : b 20 = true) (h1_ : b 21 = false) => (show Kd.R (Kd.int .i64) 3 w13 w.heap.size (fun k_ => (w.heap.size ≤ k_)) v208 y207 from by first | exact (Kd.R_elder' (by (with_reducible repeat (first | apply zrA | apply zrN | apply zrD)); exact (Q_HO209 h0_ h1_)) (Kd.R_base ho14) hb) | exact Kd.R_mono (Kd.R_elder' (by (with_reducible repeat (first | apply zrA | apply zrN | apply zrD)); exact (Q_HO209 h0_ h1_)) (Kd.R_base ho14) hb) (fun _ h_ => by first | trivial | exact h_ | exact h_.1))
        replace HO194 := n0_; have HO204 := n1_; replace BK190 := n2_; replace HB := n3_; clear n0_ n1_ n2_ n3_
        clear hb ho14
        refine hK.out _ _ ⟨v198, v203, v208, v211, (by rw [ha.out]; exact putSel_upk 9 hb_ rfl rfl rfl), (by (with_reducible repeat (first | apply znA | apply znN | apply znD)); exact Kd.N_mono HO194.out (fun _ hk => by repeat' (first | exact hk | exact hk.1 | exact hk.2 | exact hk.1.1 | exact hk.1.2 | exact hk.2.1 | exact hk.2.2 | exact hk.1.1.1 | exact hk.1.1.2 | exact hk.1.2.1 | exact hk.1.2.2 | exact hk.2.1.1 | exact hk.2.1.2 | exact hk.2.2.1 | exact hk.2.2.2 | exact hk.1.1.1.1 | exact hk.1.1.1.2 | exact hk.1.1.2.1 | exact hk.1.1.2.2 | exact hk.1.2.1.1 | exact hk.1.2.1.2 | exact hk.1.2.2.1 | exact hk.1.2.2.2 | exact hk.2.2.2.1 | exact hk.2.2.2.2 | refine And.intro ?_ ?_))), (zQ BK190), (by repeat (first | (with_reducible first | exact HB.out | apply zpA | apply zpN | apply zpD | refine below_set ?_ GE190.out) | exact HB.out)), z_HO199, fun _ _ => (by (with_reducible repeat (first | apply zrA | apply zrN | apply zrD)); exact Kd.R_mono HO204.out (fun _ hk => hk.1)), z_HO209, fun h0_ => absurd ((hoff 21 (by kernel_rfl)).symm.trans h0_) (by decide)⟩
       refine steps_cons ?_ ?_
       ·
        rintro b a w' ⟨v198, v203, v208, v211, ha, Q_HO194, Q_BK190, Q_HB, Q_HO199, Q_HO204, Q_HO209, Q_HO212⟩ hb_ hon hoff
        refine ⟨_, rfl, fun K hK => ?_⟩
        have e29 : a.tmps[29]? = some (.slice (some ad195) (rd_L2 l0_2 a1).length c191_0) := by rw [ha]; exact (putSel_off rfl).trans rfl
        replace ha := zA0 ha
        have HO194 := zA0 Q_HO194
        have BK190 := zA0 Q_BK190
        have HB := zA0 Q_HB
        have hs4_ : w'.cell? ⟨ad195.block, ad195.off + 1, none⟩ = some (.int .i64 (rd (rd_L2 l0_2 a1) 1)) := ((HB.out.cell (World.block_lt_of_cell? w _ hw205_0)).trans hw205_0)
        refine value_ (w1 := w') (v := .pointer (some (ad195.add 1))) (by rfl) rfl ?_ ?_
        ·
         go_simp
         (try simp only [i64_w])
         try rfl
        refine hK.out _ _ ⟨v198, v203, v208, v211, (by rw [ha.out]; exact putSel_upk 10 hb_ rfl rfl rfl), Q_HO194, Q_BK190, Q_HB, Q_HO199, Q_HO204, fun h0_ _ => absurd ((hoff 20 (by kernel_rfl)).symm.trans h0_) (by decide), fun h0_ => absurd ((hoff 21 (by kernel_rfl)).symm.trans h0_) (by decide)⟩
       refine steps_cons ?_ ?_
       ·
        rintro b a w' ⟨v198, v203, v208, v211, ha, Q_HO194, Q_BK190, Q_HB, Q_HO199, Q_HO204, Q_HO209, Q_HO212⟩ hb_ hon hoff
        refine ⟨_, rfl, fun K hK => ?_⟩
        have e30 : a.tmps[30]? = some (.pointer (some (ad195.add 1))) := by rw [ha]; exact putSel_on (e := (15, 30, .pointer (some (ad195.add 1)))) 10 rfl rfl (hon 15 (by kernel_rfl)) rfl
        replace ha := zA0 ha
        have HO194 := zA0 Q_HO194
        have BK190 := zA0 Q_BK190
        have HB := zA0 Q_HB
        have hs4_ : w'.cell? ⟨ad195.block, ad195.off + 1, none⟩ = some (.int .i64 (rd (rd_L2 l0_2 a1) 1)) := ((HB.out.cell (World.block_lt_of_cell? w _ hw205_0)).trans hw205_0)
        refine value_ (w1 := w') (v := .int .i64 (rd (rd_L2 l0_2 a1) 1)) (by rfl) rfl ?_ ?_
        ·
         go_simp
         (try simp only [i64_w])
         try rfl
        refine hK.out _ _ ⟨v198, v203, v208, v211, (by rw [ha.out]; exact putSel_upk 11 hb_ rfl rfl rfl), Q_HO194, Q_BK190, Q_HB, Q_HO199, Q_HO204, fun h0_ _ => absurd ((hoff 20 (by kernel_rfl)).symm.trans h0_) (by decide), fun h0_ => absurd ((hoff 21 (by kernel_rfl)).symm.trans h0_) (by decide)⟩
       refine steps_cons ?_ ?_
       ·
        rintro b a w' ⟨v198, v203, v208, v211, ha, Q_HO194, Q_BK190, Q_HB, Q_HO199, Q_HO204, Q_HO209, Q_HO212⟩ hb_ hon hoff
        refine ⟨_, rfl, fun K hK => ?_⟩
        have e32 : a.tmps[32]? = some (.slice (some ad195) (rd_L2 l0_2 a1).length c191_0) := by rw [ha]; exact (putSel_off rfl).trans rfl
        replace ha := zA0 ha
        have HO194 := zA0 Q_HO194
        have BK190 := zA0 Q_BK190
        have HB := zA0 Q_HB
        have hs5_ : w'.cell? ⟨ad195.block, ad195.off + 2, none⟩ = some (.int .i64 (rd (rd_L2 l0_2 a1) 2)) := ((HB.out.cell (World.block_lt_of_cell? w _ hw206_0)).trans hw206_0)
        refine value_ (w1 := w') (v := .pointer (some (ad195.add 2))) (by rfl) rfl ?_ ?_
        ·
         go_simp
         (try simp only [i64_w])
         try rfl
        refine hK.out _ _ ⟨v198, v203, v208, v211, (by rw [ha.out]; exact putSel_upk 12 hb_ rfl rfl rfl), Q_HO194, Q_BK190, Q_HB, Q_HO199, Q_HO204, fun h0_ _ => absurd ((hoff 20 (by kernel_rfl)).symm.trans h0_) (by decide), fun h0_ => absurd ((hoff 21 (by kernel_rfl)).symm.trans h0_) (by decide)⟩
       refine steps_cons ?_ ?_
       ·
        rintro b a w' ⟨v198, v203, v208, v211, ha, Q_HO194, Q_BK190, Q_HB, Q_HO199, Q_HO204, Q_HO209, Q_HO212⟩ hb_ hon hoff
        refine ⟨_, rfl, fun K hK => ?_⟩
        have e33 : a.tmps[33]? = some (.pointer (some (ad195.add 2))) := by rw [ha]; exact putSel_on (e := (18, 33, .pointer (some (ad195.add 2)))) 12 rfl rfl (hon 18 (by kernel_rfl)) rfl
        replace ha := zA0 ha
        have HO194 := zA0 Q_HO194
        have BK190 := zA0 Q_BK190
        have HB := zA0 Q_HB
        have hs5_ : w'.cell? ⟨ad195.block, ad195.off + 2, none⟩ = some (.int .i64 (rd (rd_L2 l0_2 a1) 2)) := ((HB.out.cell (World.block_lt_of_cell? w _ hw206_0)).trans hw206_0)
        refine value_ (w1 := w') (v := .int .i64 (rd (rd_L2 l0_2 a1) 2)) (by rfl) rfl ?_ ?_
        ·
         go_simp
         (try simp only [i64_w])
         try rfl
        refine hK.out _ _ ⟨v198, v203, v208, v211, (by rw [ha.out]; exact putSel_upk 13 hb_ rfl rfl rfl), Q_HO194, Q_BK190, Q_HB, Q_HO199, Q_HO204, fun h0_ _ => absurd ((hoff 20 (by kernel_rfl)).symm.trans h0_) (by decide), fun h0_ => absurd ((hoff 21 (by kernel_rfl)).symm.trans h0_) (by decide)⟩
       refine steps_cons ?_ ?_
       ·
        rintro b a w' ⟨v198, v203, v208, v211, ha, Q_HO194, Q_BK190, Q_HB, Q_HO199, Q_HO204, Q_HO209, Q_HO212⟩ hb_ hon hoff
        refine ⟨_, rfl, fun K hK => ?_⟩
        have e31 : a.tmps[31]? = some (.int .i64 (rd (rd_L2 l0_2 a1) 1)) := by rw [ha]; exact putSel_on (e := (16, 31, .int .i64 (rd (rd_L2 l0_2 a1) 1))) 11 rfl rfl (hon 16 (by kernel_rfl)) rfl
        have e34 : a.tmps[34]? = some (.int .i64 (rd (rd_L2 l0_2 a1) 2)) := by rw [ha]; exact putSel_on (e := (19, 34, .int .i64 (rd (rd_L2 l0_2 a1) 2))) 13 rfl rfl (hon 19 (by kernel_rfl)) rfl
        replace ha := zA0 ha
        have HO194 := zA0 Q_HO194
        have BK190 := zA0 Q_BK190
        have HB := zA0 Q_HB
        refine Kd.R_lit_step (Kd.int .i64) _ 3 ?hg (N := 35) ?hd (xs := ([rd (rd_L2 l0_2 a1) 1, rd (rd_L2 l0_2 a1) 2] : List Int)) (inner := [.int .i64 (rd (rd_L2 l0_2 a1) 1), .int .i64 (rd (rd_L2 l0_2 a1) 2)]) (ok := fun _ => True) (okp := fun _ => True) ?hr ?hp (fun _ hk => hk) trivial (Below.refl _ _) (Nat.le_refl _) (by simp) ?_; (case hd => rfl); (case hg => rfl); (case hr => first | (go_simp; done) | (go_simp; rfl)); (case hp => exact (Reps.one (show Kd.M (Kd.int .i64) _ _ _ (rd (rd_L2 l0_2 a1) 1) [.int .i64 (rd (rd_L2 l0_2 a1) 1)] from rfl) (Reps.one (show Kd.M (Kd.int .i64) _ _ _ (rd (rd_L2 l0_2 a1) 2) [.int .i64 (rd (rd_L2 l0_2 a1) 2)] from rfl) (Reps.none _ _))))
        intro v208 w13 ho14 hb hg_ hnew_
        clear hg_ hnew_
        (first | rw [← Ny207.out] at ho14 | (simp only [Int.reduceToNat] at ho14; rw [← Ny207.out] at ho14))
        have n0_ := zA0 (Kd.N_elder' (zN HO194) (Kd.R_base ho14) hb)
        have n1_ := zA0 (Kd.R_lower (Kd.R_newM (M := fun k_ => (w.heap.size ≤ k_)) ho14 (below_size (by repeat (first | (with_reducible first | exact HB.out | apply zpA | apply zpN | apply zpD | refine below_set ?_ GE190.out) | exact HB.out))) (fun k_ h_ => h_)) (below_size (by repeat (first | (with_reducible first | exact HB.out | apply zpA | apply zpN | apply zpD | refine below_set ?_ GE190.out) | exact HB.out))))
        have n2_ := zA0 (blk_below (g := gb190) (o := .cells #[.int .i64 a0_0, .slice A0_1 l0_1.length c0_1, .slice (some ad191) l0_2.length c0_2, .slice A0_3 l0_3.length c0_3] 132 (0, 0)) (zQ BK190) hb)
        have n3_ := zA0 (below_step (by repeat (first | (with_reducible first | exact HB.out | apply zpA | apply zpN | apply zpD | refine below_set ?_ GE190.out) | exact HB.out)) hb)
        have z_HO199 := fun (h0_ : b 6 = true) (h1_ : b 21 = false) => (show Kd.R (Kd.int .i64) 3 w13 w.heap.size (fun k_ => (w.heap.size ≤ k_)) v198 y197 from by first | exact (Kd.R_elder' (by (with_reducible repeat (first | apply zrA | apply zrN | apply zrD)); exact (Q_HO199 h0_ h1_)) (Kd.R_base ho14) hb) | exact Kd.R_mono (Kd.R_elder' (by (with_reducible repeat (first | apply zrA | apply zrN | apply zrD)); exact (Q_HO199 h0_ h1_)) (Kd.R_base ho14) hb) (fun _ h_ => by first | trivial | exact h_ | exact h_.1))
        have z_HO204 := fun (h0_ : b 13 = true) (h1_ : b 21 = false) => (show Kd.R (Kd.int .i64) 3 w13 w.heap.size (fun k_ => (w.heap.size ≤ k_)) v203 y202 from by first | exact (Kd.R_elder' (by (with_reducible repeat (first | apply zrA | apply zrN | apply zrD)); exact (Q_HO204 h0_ h1_)) (Kd.R_base ho14) hb) | exact Kd.R_mono (Kd.R_elder' (by (with_reducible repeat (first | apply zrA | apply zrN | apply zrD)); exact (Q_HO204 h0_ h1_)) (Kd.R_base ho14) hb) (fun _ h_ => by first | trivial | exact h_ | exact h_.1))
        replace HO194 := n0_; have HO209 := n1_; replace BK190 := n2_; replace HB := n3_; clear n0_ n1_ n2_ n3_
        clear hb ho14
        refine hK.out _ _ ⟨v198, v203, v208, v211, (by rw [ha.out]; exact putSel_upk 14 hb_ rfl rfl rfl), (by (with_reducible repeat (first | apply znA | apply znN | apply znD)); exact Kd.N_mono HO194.out (fun _ hk => by repeat' (first | exact hk | exact hk.1 | exact hk.2 | exact hk.1.1 | exact hk.1.2 | exact hk.2.1 | exact hk.2.2 | exact hk.1.1.1 | exact hk.1.1.2 | exact hk.1.2.1 | exact hk.1.2.2 | exact hk.2.1.1 | exact hk.2.1.2 | exact hk.2.2.1 | exact hk.2.2.2 | exact hk.1.1.1.1 | exact hk.1.1.1.2 | exact hk.1.1.2.1 | exact hk.1.1.2.2 | exact hk.1.2.1.1 | exact hk.1.2.1.2 | exact hk.1.2.2.1 | exact hk.1.2.2.2 | exact hk.2.2.2.1 | exact hk.2.2.2.2 | refine And.intro ?_ ?_))), (zQ BK190), (by repeat (first | (with_reducible first | exact HB.out | apply zpA | apply zpN | apply zpD | refine below_set ?_ GE190.out) | exact HB.out)), z_HO199, z_HO204, fun _ _ => (by (with_reducible repeat (first | apply zrA | apply zrN | apply zrD)); exact Kd.R_mono HO209.out (fun _ hk => hk.1)), fun h0_ => absurd ((hoff 21 (by kernel_rfl)).symm.trans h0_) (by decide)⟩
       refine steps_cons ?_ ?_
       ·
        rintro b a w' ⟨v198, v203, v208, v211, ha, Q_HO194, Q_BK190, Q_HB, Q_HO199, Q_HO204, Q_HO209, Q_HO212⟩ hb_ hon hoff
        refine ⟨_, rfl, fun K hK => ?_⟩
        have e21 : a.tmps[21]? = some (v198) := by rw [ha]; exact putSel_on (e := (6, 21, v198)) 4 rfl rfl (hon 6 (by kernel_rfl)) rfl
        have e28 : a.tmps[28]? = some (v203) := by rw [ha]; exact putSel_on (e := (13, 28, v203)) 9 rfl rfl (hon 13 (by kernel_rfl)) rfl
        have e35 : a.tmps[35]? = some (v208) := by rw [ha]; exact putSel_on (e := (20, 35, v208)) 14 rfl rfl (hon 20 (by kernel_rfl)) rfl
        replace ha := zA0 ha
        have HO194 := zA0 Q_HO194
        have BK190 := zA0 Q_BK190
        have HB := zA0 Q_HB
        have HO199 := zA0 (Q_HO199 (hon 6 (by kernel_rfl)) hb_)
        have HO204 := zA0 (Q_HO204 (hon 13 (by kernel_rfl)) hb_)
        have HO209 := zA0 (Q_HO209 (hon 20 (by kernel_rfl)) hb_)
        obtain ⟨Ao20, co20, eo20⟩ := Kd.R_slice HO199.out
        (first | subst eo20 | (injection eo20 with f1_ f2_ f3_; have f4_ := f1_.symm; have f5_ := f3_.symm; clear f1_ f2_ f3_; subst f4_; subst f5_))
        obtain ⟨Ao21, co21, eo21⟩ := Kd.R_slice HO204.out
        (first | subst eo21 | (injection eo21 with f1_ f2_ f3_; have f4_ := f1_.symm; have f5_ := f3_.symm; clear f1_ f2_ f3_; subst f4_; subst f5_))
        obtain ⟨Ao22, co22, eo22⟩ := Kd.R_slice HO209.out
        (first | subst eo22 | (injection eo22 with f1_ f2_ f3_; have f4_ := f1_.symm; have f5_ := f3_.symm; clear f1_ f2_ f3_; subst f4_; subst f5_))
        refine Kd.N_lit_step (Kd.slice 3 (Kd.int .i64)) _ 22 ?hg (N' := 36) ?hd (xs := ([y197, y202, y207] : List (List Int))) (inner := [.slice Ao20 y197.length co20, .slice Ao21 y202.length co21, .slice Ao22 y207.length co22]) (ok := (fun k_ => (w.heap.size ≤ k_) ∧ some k_ ≠ (v193 : Value).ownBlock ∧ k_ ≠ gb190)) (okp := (fun k_ => (w.heap.size ≤ k_) ∧ some k_ ≠ (v193 : Value).ownBlock ∧ k_ ≠ gb190)) ?hr ?hp (fun _ hk => hk) ((show ∀ k_, w'.heap.size ≤ k_ → (fun k_ => (w.heap.size ≤ k_) ∧ some k_ ≠ (v193 : Value).ownBlock ∧ k_ ≠ gb190) k_ from fun k_ hk => ⟨(Nat.le_trans (below_size (by repeat (first | (with_reducible first | exact HB.out | apply zpA | apply zpN | apply zpD | refine below_set ?_ GE190.out) | exact HB.out))) hk), Kd.fresh' (Kd.N_lt (zN HO194)) k_ hk, Kd.freshB (g := gb190) (o := .cells #[.int .i64 a0_0, .slice A0_1 l0_1.length c0_1, .slice (some ad191) l0_2.length c0_2, .slice A0_3 l0_3.length c0_3] 132 (0, 0)) (zQ BK190) k_ hk⟩) _ (Nat.le_refl _)) (Below.refl _ _) (Nat.le_refl _) (by simp) ?_; (case hd => rfl); (case hg => rfl); (case hr => first | (go_simp; done) | (go_simp; rfl)); (case hp => exact (Reps.one (show Kd.FK (Kd.slice 3 (Kd.int .i64)) _ _ y197 [.slice Ao20 y197.length co20] from (Kd.FK_slice_mk (Kd.R_reads' (Kd.R_mono (ok' := (fun k_ => (w.heap.size ≤ k_) ∧ some k_ ≠ (v193 : Value).ownBlock ∧ k_ ≠ gb190)) (Kd.R_types (Kd.R_apart' (HO199.out) (Kd.N_typed HO194.out) (by decide)) BK190.out (by decide)) (fun k_ hk => by repeat' (first | exact hk | exact hk.1 | exact hk.2 | exact hk.1.1 | exact hk.1.2 | exact hk.2.1 | exact hk.2.2 | exact hk.1.1.1 | exact hk.1.1.2 | exact hk.1.2.1 | exact hk.1.2.2 | exact hk.2.1.1 | exact hk.2.1.2 | exact hk.2.2.1 | exact hk.2.2.2 | exact hk.1.1.1.1 | exact hk.1.1.1.2 | exact hk.1.1.2.1 | exact hk.1.1.2.2 | exact hk.1.2.1.1 | exact hk.1.2.1.2 | exact hk.1.2.2.1 | exact hk.1.2.2.2 | exact hk.2.2.2.1 | exact hk.2.2.2.2 | refine And.intro ?_ ?_)))).2.1 (Kd.R_F (Kd.R_mono (ok' := (fun k_ => (w.heap.size ≤ k_) ∧ some k_ ≠ (v193 : Value).ownBlock ∧ k_ ≠ gb190)) (Kd.R_types (Kd.R_apart' (HO199.out) (Kd.N_typed HO194.out) (by decide)) BK190.out (by decide)) (fun k_ hk => by repeat' (first | exact hk | exact hk.1 | exact hk.2 | exact hk.1.1 | exact hk.1.2 | exact hk.2.1 | exact hk.2.2 | exact hk.1.1.1 | exact hk.1.1.2 | exact hk.1.2.1 | exact hk.1.2.2 | exact hk.2.1.1 | exact hk.2.1.2 | exact hk.2.2.1 | exact hk.2.2.2 | exact hk.1.1.1.1 | exact hk.1.1.1.2 | exact hk.1.1.2.1 | exact hk.1.1.2.2 | exact hk.1.2.1.1 | exact hk.1.2.1.2 | exact hk.1.2.2.1 | exact hk.1.2.2.2 | exact hk.2.2.2.1 | exact hk.2.2.2.2 | refine And.intro ?_ ?_)))))) (Reps.one (show Kd.FK (Kd.slice 3 (Kd.int .i64)) _ _ y202 [.slice Ao21 y202.length co21] from (Kd.FK_slice_mk (Kd.R_reads' (Kd.R_mono (ok' := (fun k_ => (w.heap.size ≤ k_) ∧ some k_ ≠ (v193 : Value).ownBlock ∧ k_ ≠ gb190)) (Kd.R_types (Kd.R_apart' (HO204.out) (Kd.N_typed HO194.out) (by decide)) BK190.out (by decide)) (fun k_ hk => by repeat' (first | exact hk | exact hk.1 | exact hk.2 | exact hk.1.1 | exact hk.1.2 | exact hk.2.1 | exact hk.2.2 | exact hk.1.1.1 | exact hk.1.1.2 | exact hk.1.2.1 | exact hk.1.2.2 | exact hk.2.1.1 | exact hk.2.1.2 | exact hk.2.2.1 | exact hk.2.2.2 | exact hk.1.1.1.1 | exact hk.1.1.1.2 | exact hk.1.1.2.1 | exact hk.1.1.2.2 | exact hk.1.2.1.1 | exact hk.1.2.1.2 | exact hk.1.2.2.1 | exact hk.1.2.2.2 | exact hk.2.2.2.1 | exact hk.2.2.2.2 | refine And.intro ?_ ?_)))).2.1 (Kd.R_F (Kd.R_mono (ok' := (fun k_ => (w.heap.size ≤ k_) ∧ some k_ ≠ (v193 : Value).ownBlock ∧ k_ ≠ gb190)) (Kd.R_types (Kd.R_apart' (HO204.out) (Kd.N_typed HO194.out) (by decide)) BK190.out (by decide)) (fun k_ hk => by repeat' (first | exact hk | exact hk.1 | exact hk.2 | exact hk.1.1 | exact hk.1.2 | exact hk.2.1 | exact hk.2.2 | exact hk.1.1.1 | exact hk.1.1.2 | exact hk.1.2.1 | exact hk.1.2.2 | exact hk.2.1.1 | exact hk.2.1.2 | exact hk.2.2.1 | exact hk.2.2.2 | exact hk.1.1.1.1 | exact hk.1.1.1.2 | exact hk.1.1.2.1 | exact hk.1.1.2.2 | exact hk.1.2.1.1 | exact hk.1.2.1.2 | exact hk.1.2.2.1 | exact hk.1.2.2.2 | exact hk.2.2.2.1 | exact hk.2.2.2.2 | refine And.intro ?_ ?_)))))) (Reps.one (show Kd.FK (Kd.slice 3 (Kd.int .i64)) _ _ y207 [.slice Ao22 y207.length co22] from (Kd.FK_slice_mk (Kd.R_reads' (Kd.R_mono (ok' := (fun k_ => (w.heap.size ≤ k_) ∧ some k_ ≠ (v193 : Value).ownBlock ∧ k_ ≠ gb190)) (Kd.R_types (Kd.R_apart' (HO209.out) (Kd.N_typed HO194.out) (by decide)) BK190.out (by decide)) (fun k_ hk => by repeat' (first | exact hk | exact hk.1 | exact hk.2 | exact hk.1.1 | exact hk.1.2 | exact hk.2.1 | exact hk.2.2 | exact hk.1.1.1 | exact hk.1.1.2 | exact hk.1.2.1 | exact hk.1.2.2 | exact hk.2.1.1 | exact hk.2.1.2 | exact hk.2.2.1 | exact hk.2.2.2 | exact hk.1.1.1.1 | exact hk.1.1.1.2 | exact hk.1.1.2.1 | exact hk.1.1.2.2 | exact hk.1.2.1.1 | exact hk.1.2.1.2 | exact hk.1.2.2.1 | exact hk.1.2.2.2 | exact hk.2.2.2.1 | exact hk.2.2.2.2 | refine And.intro ?_ ?_)))).2.1 (Kd.R_F (Kd.R_mono (ok' := (fun k_ => (w.heap.size ≤ k_) ∧ some k_ ≠ (v193 : Value).ownBlock ∧ k_ ≠ gb190)) (Kd.R_types (Kd.R_apart' (HO209.out) (Kd.N_typed HO194.out) (by decide)) BK190.out (by decide)) (fun k_ hk => by repeat' (first | exact hk | exact hk.1 | exact hk.2 | exact hk.1.1 | exact hk.1.2 | exact hk.2.1 | exact hk.2.2 | exact hk.1.1.1 | exact hk.1.1.2 | exact hk.1.2.1 | exact hk.1.2.2 | exact hk.2.1.1 | exact hk.2.1.2 | exact hk.2.2.1 | exact hk.2.2.2 | exact hk.1.1.1.1 | exact hk.1.1.1.2 | exact hk.1.1.2.1 | exact hk.1.1.2.2 | exact hk.1.2.1.1 | exact hk.1.2.1.2 | exact hk.1.2.2.1 | exact hk.1.2.2.2 | exact hk.2.2.2.1 | exact hk.2.2.2.2 | refine And.intro ?_ ?_)))))) (Reps.none _ _)))))
        intro v211 w23 ho24 hb hg_ hnew_
        clear hg_ hnew_
        (first | rw [← Ny210.out] at ho24 | (simp only [Int.reduceToNat] at ho24; rw [← Ny210.out] at ho24))
        have n0_ := zA0 (Kd.N_elder' (zN HO194) (Kd.N_base ho24) hb)
        have n1_ := zA0 (Kd.N_lower ho24 (below_size (by repeat (first | (with_reducible first | exact HB.out | apply zpA | apply zpN | apply zpD | refine below_set ?_ GE190.out) | exact HB.out))))
        have n2_ := zA0 (blk_below (g := gb190) (o := .cells #[.int .i64 a0_0, .slice A0_1 l0_1.length c0_1, .slice (some ad191) l0_2.length c0_2, .slice A0_3 l0_3.length c0_3] 132 (0, 0)) (zQ BK190) hb)
        have n3_ := zA0 (below_step (by repeat (first | (with_reducible first | exact HB.out | apply zpA | apply zpN | apply zpD | refine below_set ?_ GE190.out) | exact HB.out)) hb)
        clear HO199; clear HO204; clear HO209; replace HO194 := n0_; have HO212 := n1_; replace BK190 := n2_; replace HB := n3_; clear n0_ n1_ n2_ n3_
        clear hb ho24
        obtain ⟨Ao25, co25, eo25⟩ := Kd.N_slice HO212.out
        (first | subst eo25 | (injection eo25 with f1_ f2_ f3_; have f4_ := f1_.symm; have f5_ := f3_.symm; clear f1_ f2_ f3_; subst f4_; subst f5_))
        refine hK.out _ _ ⟨.slice Ao20 y197.length co20, .slice Ao21 y202.length co21, .slice Ao22 y207.length co22, .slice Ao25 y210.length co25, (by rw [ha.out]; exact putSel_upk 15 hb_ rfl rfl rfl), (by (with_reducible repeat (first | apply znA | apply znN | apply znD)); exact Kd.N_mono HO194.out (fun _ hk => by repeat' (first | exact hk | exact hk.1 | exact hk.2 | exact hk.1.1 | exact hk.1.2 | exact hk.2.1 | exact hk.2.2 | exact hk.1.1.1 | exact hk.1.1.2 | exact hk.1.2.1 | exact hk.1.2.2 | exact hk.2.1.1 | exact hk.2.1.2 | exact hk.2.2.1 | exact hk.2.2.2 | exact hk.1.1.1.1 | exact hk.1.1.1.2 | exact hk.1.1.2.1 | exact hk.1.1.2.2 | exact hk.1.2.1.1 | exact hk.1.2.1.2 | exact hk.1.2.2.1 | exact hk.1.2.2.2 | exact hk.2.2.2.1 | exact hk.2.2.2.2 | refine And.intro ?_ ?_))), (zQ BK190), (by repeat (first | (with_reducible first | exact HB.out | apply zpA | apply zpN | apply zpD | refine below_set ?_ GE190.out) | exact HB.out)), fun _ h1_ => absurd ((up_self b 21).symm.trans h1_) (by decide), fun _ h1_ => absurd ((up_self b 21).symm.trans h1_) (by decide), fun _ h1_ => absurd ((up_self b 21).symm.trans h1_) (by decide), fun _ => (zN HO212)⟩
       refine steps_cons ?_ ?_
       ·
        rintro b a w' ⟨v198, v203, v208, v211, ha, Q_HO194, Q_BK190, Q_HB, Q_HO199, Q_HO204, Q_HO209, Q_HO212⟩ hb_ hon hoff
        refine ⟨_, rfl, fun K hK => ?_⟩
        have e36 : a.tmps[36]? = some (v211) := by rw [ha]; exact putSel_on (e := (21, 36, v211)) 15 rfl rfl (hon 21 (by kernel_rfl)) rfl
        replace ha := zA0 ha
        have HO194 := zA0 Q_HO194
        have BK190 := zA0 Q_BK190
        have HB := zA0 Q_HB
        have HO212 := zA0 (Q_HO212 (hon 21 (by kernel_rfl)))
        obtain ⟨Ao22_0, co22_0, eo_⟩ := Kd.N_slice HO212.out
        subst eo_
        refine value_ (w1 := w') (v := .int .i64 (y210.length : Int)) (by rfl) rfl ?_ ?_
        ·
         go_simp
         (try simp only [i64_w])
         try rfl
        refine hK.out _ _ ⟨v198, v203, v208, .slice Ao22_0 y210.length co22_0, (by rw [ha.out]; exact putSel_upk 16 hb_ rfl rfl rfl), Q_HO194, Q_BK190, Q_HB, fun _ h1_ => absurd ((hon 21 (by kernel_rfl)).symm.trans h1_) (by decide), fun _ h1_ => absurd ((hon 21 (by kernel_rfl)).symm.trans h1_) (by decide), fun _ h1_ => absurd ((hon 21 (by kernel_rfl)).symm.trans h1_) (by decide), Q_HO212⟩
       exact steps_nil
      rintro b a w25 hall ⟨v198, v203, v208, v211, ha, Q_HO194, Q_BK190, Q_HB, Q_HO199, Q_HO204, Q_HO209, Q_HO212⟩
      clear BK190 HB HO194
      have hb1_ := hall 1 (by kernel_rfl)
      have hb2_ := hall 2 (by kernel_rfl)
      have hb4_ := hall 4 (by kernel_rfl)
      have hb5_ := hall 5 (by kernel_rfl)
      have hb6_ := hall 6 (by kernel_rfl)
      have hb8_ := hall 8 (by kernel_rfl)
      have hb9_ := hall 9 (by kernel_rfl)
      have hb11_ := hall 11 (by kernel_rfl)
      have hb12_ := hall 12 (by kernel_rfl)
      have hb13_ := hall 13 (by kernel_rfl)
      have hb15_ := hall 15 (by kernel_rfl)
      have hb16_ := hall 16 (by kernel_rfl)
      have hb18_ := hall 18 (by kernel_rfl)
      have hb19_ := hall 19 (by kernel_rfl)
      have hb20_ := hall 20 (by kernel_rfl)
      have hb21_ := hall 21 (by kernel_rfl)
      have hb22_ := hall 22 (by kernel_rfl)
      subst ha
      simp only [putSel, hb1_, hb2_, hb4_, hb5_, hb6_, hb8_, hb9_, hb11_, hb12_, hb13_, hb15_, hb16_, hb18_, hb19_, hb20_, hb21_, hb22_, if_true, Act.put, List.setIfInBounds_toArray, List.set_cons_zero, List.set_cons_succ]
      have HO194 := zA0 Q_HO194
      clear Q_HO194
      have BK190 := zA0 Q_BK190
      clear Q_BK190
      have HB := zA0 Q_HB
      clear Q_HB
      clear Q_HO199
      clear Q_HO204
      clear Q_HO209
      have HO212 := zA0 (Q_HO212 hb21_)
      clear Q_HO212
      clear hall hb1_ hb2_ hb4_ hb5_ hb6_ hb8_ hb9_ hb11_ hb12_ hb13_ hb15_ hb16_ hb18_ hb19_ hb20_ hb21_ hb22_
      obtain ⟨Ao26, co26, eo26⟩ := Kd.N_slice HO212.out
      (first | subst eo26 | (injection eo26 with f1_ f2_ f3_; have f4_ := f1_.symm; have f5_ := f3_.symm; clear f1_ f2_ f3_; subst f4_; subst f5_))
      try go_wp2
      go_loopg [6, 38] k (fun kq v6 v38 w' => ∃ (x6_1 : List (List Int)) (x38_1 : Int), v38 = .int .i64 x38_1 ∧ Aside0 (impl_house_doors.l0 kq x6_1 y210 (y210.length : Int) x38_1 a0_0 l0_1 l0_2 l0_3 = some r) ∧ Aside0 (kq ≤ k) ∧ Aside0 (Kd.N (Kd.slice 3 (Kd.int .i64)) 22 w' w.heap.size (fun k_ => (w.heap.size ≤ k_) ∧ some k_ ≠ ((.slice Ao26 y210.length co26) : Value).ownBlock ∧ k_ ≠ gb190) v6 x6_1) ∧ Aside0 (Kd.N (Kd.slice 3 (Kd.int .i64)) 22 w' w.heap.size (fun k_ => (w.heap.size ≤ k_) ∧ some k_ ≠ (v6 : Value).ownBlock ∧ k_ ≠ gb190) (.slice Ao26 y210.length co26) y210) ∧ Aside0 (w'.heap[gb190]? = some (.cells #[.int .i64 a0_0, (.slice A0_1 l0_1.length c0_1), (.slice (some ad191) l0_2.length c0_2), (.slice A0_3 l0_3.length c0_3)] 132 (0, 0))) ∧ Aside0 (Below w.heap.size w w'))
      case atStart => exact ⟨(y192), (0), (by first | rfl | (simp; done) | (simp [*]; done) | (simp; decide) | (simp; unfold wrap64; omega)), H', ⟨Nat.le_refl _⟩, ⟨by (with_reducible repeat (first | apply znA | apply znN | apply znD)); (have hz1 := HO194.out; rw [Ny192.out] at hz1 ⊢; have hz2 := N_swap0 hz1 HO212.out; exact Kd.N_mono hz2 (fun k_ hk => ⟨hk.1.1, hk.2, hk.1.2⟩))⟩, ⟨zN HO212⟩, ⟨by (with_reducible repeat (first | refine blk_drewN ?_ _ | refine blk_drew ?_ | refine blk_alloc ?_ _)); exact BK190.out⟩, ⟨by repeat (first | (with_reducible first | exact HB.out | apply zpA | apply zpN | apply zpD | refine below_set ?_ GE190.out) | exact HB.out)⟩⟩
      case round =>
       clear H'
       try clear c1
       try clear p1
       try clear q1
       try clear hx1
       try clear qi1
       try clear c2
       try clear p2
       try clear q2
       try clear hx2
       try clear qi2
       try clear c3
       try clear c3b0
       try clear c4
       try clear c4b0
       try clear c5
       try clear c5b0
       try clear c5b1
       try clear c6
       try clear c6b0
       try clear c6b1
       try clear p6
       try clear c7
       try clear c7b0
       try clear c7b1
       try clear c19
       try clear p19
       try clear q19
       try clear hx19
       try clear qi19
       try clear c20
       try clear p20
       try clear q20
       try clear hx20
       try clear qi20
       try clear hcz9_0
       try clear hcz9_1
       try clear hcz9_2
       try clear hcz9_3
       try clear hfz9_0
       try clear hfz9_1
       try clear hfz9_2
       try clear hfz9_3
       try clear hx191_0
       try clear hx195_0
       try clear hx196_0
       try clear hx200_0
       try clear hx201_0
       try clear hx205_0
       try clear hx206_0
       try clear p191
       try clear p195
       try clear p196
       try clear p200
       try clear p201
       try clear p205
       try clear p206
       try clear q191
       try clear q195
       try clear q196
       try clear q200
       try clear q201
       try clear q205
       try clear q206
       obtain ⟨x6_1, x38_1, rfl, HA, HK1, HO_6, HO_36, BK190, HB⟩ := hrel
       cases gk with
       | zero => exact absurd HA.out (by simp [impl_house_doors.l0])
       | succ k1 =>
        have H := HA.out
        clear HA
        simp only [impl_house_doors.l0] at H
        by_cases c27 : x38_1 < (y210.length : Int)
        ·
         rw [if_pos c27] at H
         have c27b0 : decide (x38_1 < (y210.length : Int)) = true := decide_eq_true c27
         clear c27
         by_cases c28 : 0 ≤ x38_1
         ·
          rw [if_pos c28] at H
          have c28b0 : decide (0 ≤ x38_1) = true := decide_eq_true c28
          clear c28
          by_cases c29 : x38_1 < (y210.length : Int)
          ·
           rw [if_pos c29] at H
           have c29b0 : decide (x38_1 < (y210.length : Int)) = true := decide_eq_true c29
           clear c29
           by_cases c30 : 0 < ((rd_L2 y210 x38_1).length : Int)
           ·
            rw [if_pos c30] at H
            have c30b0 : decide (0 < ((rd_L2 y210 x38_1).length : Int)) = true := decide_eq_true c30
            have c30b1 : decide (0 < (rd_L2 y210 x38_1).length) = true := decide_eq_true (by omega)
            clear c30
            by_cases c31 : 1 < ((rd_L2 y210 x38_1).length : Int)
            ·
             rw [if_pos c31] at H
             have c31b0 : decide (1 < ((rd_L2 y210 x38_1).length : Int)) = true := decide_eq_true c31
             have c31b1 : decide (1 < (rd_L2 y210 x38_1).length) = true := decide_eq_true (by omega)
             clear c31
             replace H := Option.bind_eq_some_iff.mp H
             obtain ⟨t216, A320, H⟩ := H
             (try dsimp only at H)
             have A32 := zA0 A320
             clear A320
             by_cases c33 : t216 = true
             ·
              subst c33
              rw [if_pos rfl] at H
              by_cases c34 : x6_1.length < 5864062014805
              ·
               rw [if_pos c34] at H
               have LMc34 := zA0 c34
               clear c34
               obtain ⟨y217, hy217⟩ : ∃ y_ : List (List Int), y_ = (x6_1 ++ [rd_L2 y210 x38_1]) := ⟨_, rfl⟩
               replace H : (impl_house_doors.l0 k1 y217 y210 (y210.length : Int) (wrap64 (x38_1 + 1)) a0_0 l0_1 l0_2 l0_3) = some r := by first | (rw [hy217]; with_reducible exact H) | (have H2_ := (Option.bind_some _ _).symm.trans H; rw [hy217]; with_reducible exact H2_) | (have H2_ := (Option.bind_some _ _).symm.trans H; with_reducible exact H2_) | with_reducible exact H | (rw [hy217]; exact H) | exact H
               have Ny217 := zA0 hy217
               clear hy217
               have H' := zA0 H
               clear H
               have p213 : 0 ≤ (x38_1 : Int) := of_decide_eq_true (by first | (with_reducible assumption) | assumption)
               have q213 : x38_1 < (y210.length : Int) := of_decide_eq_true (by first | (with_reducible assumption) | assumption)
               obtain ⟨ad213, A213_0, c213_0, e213, hx213_0, hl213_0, hi213_0⟩ := at_L2 (Kd.N_reads' HO_36.out).2.2 x38_1 p213 q213
               cases e213
               obtain ⟨ce213, hce213, hMe213, hcc213⟩ := Kd.N_get HO_36.out [] x38_1 p213 (by first | exact q213 | exact of_decide_eq_true (by first | (with_reducible assumption) | assumption) | (have e_ := (Kd.N_reads' HO_36.out).1; omega))
               obtain ⟨ua213_0, uc213_0, rfl, ul213_0, ge213_0⟩ := Kd.FK_slice_open hMe213
               have hv213_0 := hcc213 0 _ rfl
               rw [Nat.add_zero, show ((Kd.slice 3 (Kd.int .i64))).sz = 1 from rfl, Nat.mul_one] at hv213_0
               replace hv213_0 := Option.some.inj (hv213_0.symm.trans hx213_0)
               injection hv213_0 with hva_ hvn_ hvc_
               rw [hva_] at ge213_0
               rw [hvc_] at ul213_0
               have HL213_0 := zA0 (show Kd.V (Kd.int .i64) 3 _ w.heap.size _ _ (rd_L2 y210 x38_1) from Kd.V_mk ul213_0 ge213_0)
               clear hva_ hvn_ hvc_ ge213_0 ul213_0
               clear hcc213 hce213
               have HR213_0 := zA0 hi213_0
               have HC213_0 := zA0 hl213_0
               clear hi213_0 hl213_0
               replace p213 := eq_true p213
               replace q213 := eq_true q213
               try go_wp2
               have n0_ := zA0 (znD HO_6.out)
               have n1_ := zA0 (znD HO_36.out)
               have n2_ := zA0 (Kd.V_drew HL213_0.out)
               have n3_ := zA0 (blk_drew BK190.out)
               have n4_ := zA0 (zcD HR213_0.out)
               have n5_ := zA0 (zpD HB.out)
               replace HO_6 := n0_; replace HO_36 := n1_; replace HL213_0 := n2_; replace BK190 := n3_; replace HR213_0 := n4_; replace HB := n5_; clear n0_ n1_ n2_ n3_ n4_ n5_
               have p214 : 0 ≤ (0 : Int) := (by omega)
               have q214 : 0 < ((rd_L2 y210 x38_1).length : Int) := of_decide_eq_true (by first | (with_reducible assumption) | assumption)
               obtain ⟨ad214, e214, hx214_0⟩ := Kd.at_int (by repeat (first | (with_reducible exact HR213_0.out) | (with_reducible refine Kd.C_alloc ?_ _) | (with_reducible refine zcN ?_ _) | (with_reducible refine zcD ?_) | exact HR213_0.out)) 0 p214 q214
               cases e214
               have qi214 : (0 < (rd_L2 y210 x38_1).length) = True := eq_true (by omega)
               (try rw [show ((0 : Int)).toNat = 0 from rfl] at hx214_0)
               (try rw [Addr.add_zero'] at hx214_0)
               replace p214 := eq_true p214
               replace q214 := eq_true q214
               have p215 : 0 ≤ (1 : Int) := (by omega)
               have q215 : 1 < ((rd_L2 y210 x38_1).length : Int) := of_decide_eq_true (by first | (with_reducible assumption) | assumption)
               obtain ⟨ad215, e215, hx215_0⟩ := Kd.at_int (by repeat (first | (with_reducible exact HR213_0.out) | (with_reducible refine Kd.C_alloc ?_ _) | (with_reducible refine zcN ?_ _) | (with_reducible refine zcD ?_) | exact HR213_0.out)) 1 p215 q215
               obtain rfl : ad214 = ad215 := (by injection e215)
               (try simp only [show (1 : Int).toNat = 1 from rfl, Nat.reduceMul, Nat.reduceEqDiff, Go.Addr.add, ↓reduceIte] at hx215_0)
               have qi215 : (1 < (rd_L2 y210 x38_1).length) = True := eq_true (by omega)
               (try rw [show ((1 : Int)).toNat = 1 from rfl] at hx215_0)
               replace p215 := eq_true p215
               replace q215 := eq_true q215
               refine start_ (n := 8) (S := fun w' => w'.cell? ⟨gb190, 0, none⟩ = some (.int .i64 a0_0) ∧ w'.cell? ⟨gb190, 1, none⟩ = some (.slice A0_1 l0_1.length c0_1) ∧ w'.cell? ⟨gb190, 2, none⟩ = some (.slice (some ad191) l0_2.length c0_2) ∧ w'.cell? ⟨gb190, 3, none⟩ = some (.slice A0_3 l0_3.length c0_3) ∧ w'.cell? ad214 = some (.int .i64 (rd (rd_L2 y210 x38_1) 0)) ∧ w'.cell? ⟨ad214.block, ad214.off + 1, none⟩ = some (.int .i64 (rd (rd_L2 y210 x38_1) 1))) (ds := []) #[false, false, false, false, false, false, false, false] (by kernel_rfl) rfl rfl ⟨(blk_cell BK190.out 0).trans rfl, (blk_cell BK190.out 1).trans rfl, (blk_cell BK190.out 2).trans rfl, (blk_cell BK190.out 3).trans rfl, hx214_0, hx215_0⟩ (fun hHeld => ?_); refine with_tabW impl_house_doors.tab5 impl_house_doors.bits5 (fun HT_ HW_ => ?_)
               generalize wr.drew = w35 at HO_6 HO_36 HL213_0 BK190 HR213_0 HB hx214_0 hx215_0 hHeld ⊢
               refine pure_ (i := 1) (N := some 43) (v := ?_) (a' := ?_) #[false, true, false, false, false, false, false, false] rfl rfl (any_of HT_.out (by kernel_rfl)) (fun _ _ _ h => h) (Or.inl ⟨by rfl, ?_⟩) ?_ ?_
               rotate_left
               ·
                intro w'
                go_simp
                with_reducible rfl
               rotate_left
               ·
                simp only [Act.put, List.setIfInBounds_toArray, List.set_cons_zero, List.set_cons_succ, i64_w, i32_w]
                rfl
               refine pure_ (i := 2) (N := some 44) (v := ?_) (a' := ?_) #[false, true, true, false, false, false, false, false] rfl rfl (any_of HT_.out (by kernel_rfl)) (fun _ _ _ h => h) (Or.inl ⟨by rfl, ?_⟩) ?_ ?_
               rotate_left
               ·
                intro w'
                go_simp
                with_reducible rfl
               rotate_left
               ·
                simp only [Act.put, List.setIfInBounds_toArray, List.set_cons_zero, List.set_cons_succ, i64_w, i32_w]
                rfl
               refine pure_ (i := 4) (N := some 46) (v := ?_) (a' := ?_) #[false, true, true, false, true, false, false, false] rfl rfl (any_of HT_.out (by kernel_rfl)) (fun _ _ _ h => h) (Or.inl ⟨by rfl, ?_⟩) ?_ ?_
               rotate_left
               ·
                intro w'
                go_simp
                with_reducible rfl
               rotate_left
               ·
                simp only [Act.put, List.setIfInBounds_toArray, List.set_cons_zero, List.set_cons_succ, i64_w, i32_w]
                rfl
               refine pure_ (i := 5) (N := some 47) (v := ?_) (a' := ?_) #[false, true, true, false, true, true, false, false] rfl rfl (any_of HT_.out (by kernel_rfl)) (fun _ _ _ h => h) (Or.inl ⟨by rfl, ?_⟩) ?_ ?_
               rotate_left
               ·
                intro w'
                go_simp
                with_reducible rfl
               rotate_left
               ·
                simp only [Act.put, List.setIfInBounds_toArray, List.set_cons_zero, List.set_cons_succ, i64_w, i32_w]
                rfl
               refine take_ (i := 0) (N := some 42) (v := ?_) (a' := ?_) #[true, true, true, false, true, true, false, false] rfl rfl (take_ofW HT_.out HW_.out (by kernel_rfl)) (fun _ _ _ h => h) (Or.inl ⟨by rfl, ?_⟩) hHeld ?_ ?_
               rotate_left
               ·
                rintro w' ⟨s0, s1, s2, s3, s4, s5⟩
                go_simp
                with_reducible rfl
               rotate_left
               ·
                simp only [Act.put, List.setIfInBounds_toArray, List.set_cons_zero, List.set_cons_succ, i64_w, i32_w]
                rfl
               refine take_ (i := 3) (N := some 45) (v := ?_) (a' := ?_) #[true, true, true, true, true, true, false, false] rfl rfl (take_ofW HT_.out HW_.out (by kernel_rfl)) (fun _ _ _ h => h) (Or.inl ⟨by rfl, ?_⟩) hHeld ?_ ?_
               rotate_left
               ·
                rintro w' ⟨s0, s1, s2, s3, s4, s5⟩
                go_simp
                with_reducible rfl
               rotate_left
               ·
                simp only [Act.put, List.setIfInBounds_toArray, List.set_cons_zero, List.set_cons_succ, i64_w, i32_w]
                rfl
               refine take_ (i := 6) (N := some 48) (v := ?_) (a' := ?_) #[true, true, true, true, true, true, true, false] rfl rfl (take_ofW HT_.out HW_.out (by kernel_rfl)) (fun _ _ _ h => h) (Or.inl ⟨by rfl, ?_⟩) hHeld ?_ ?_
               rotate_left
               ·
                rintro w' ⟨s0, s1, s2, s3, s4, s5⟩
                go_simp
                with_reducible rfl
               rotate_left
               ·
                simp only [Act.put, List.setIfInBounds_toArray, List.set_cons_zero, List.set_cons_succ, i64_w, i32_w]
                rfl
               refine one_ (i := 7) (N := some 49) #[true, true, true, true, true, true, true, true] rfl rfl (one_of HT_.out (by kernel_rfl)) (by decide) (fun K hK => ?_)
               refine goes_ Try.func212 (by kernel_rfl) rfl #[.agg #[.int .i64 a0_0, .slice A0_1 l0_1.length c0_1, .slice (some ad191) l0_2.length c0_2, .slice A0_3 l0_3.length c0_3], .int .i64 (rd (rd_L2 y210 x38_1) 0), .int .i64 (rd (rd_L2 y210 x38_1) 1)] (by rfl) rfl rfl (by (try simp only [List.map_toArray, List.map_cons, List.map_nil]); first | done | rfl) ?_
               with_reducible refine (impl_house_isDoor.calls a0_0 _ _ l0_1 _ _ l0_2 _ _ l0_3 (rd (rd_L2 y210 x38_1) 0) (rd (rd_L2 y210 x38_1) 1) true _ ?side1 ?side2 ?side3 ?side4 ?side5 ?side6 A32.out).mono ?_
               (case side1 => exact zC (Kd.C_below HR0_1.out HB.out))
               (case side2 => exact HC0_1.out)
               (case side3 => exact zC (Kd.C_below HR0_2.out HB.out))
               (case side4 => exact HC0_2.out)
               (case side5 => exact zC (Kd.C_below HR0_3.out HB.out))
               (case side6 => exact HC0_3.out)
               rintro e w36 ⟨rfl, hb⟩
               have HS4_ := (hb.cell (World.block_lt_of_cell? _ _ (hHeld.2.2.2.2.1))).trans (hHeld.2.2.2.2.1)
               have HS5_ := (hb.cell (World.block_lt_of_cell? _ _ (hHeld.2.2.2.2.2))).trans (hHeld.2.2.2.2.2)
               refine ⟨_, rfl, ?_⟩
               have n0_ := zA0 (Kd.N_below (zN HO_6) hb)
               have n1_ := zA0 (Kd.N_below (zN HO_36) hb)
               have n2_ := zA0 (Kd.V_below (zV HL213_0) hb)
               have n3_ := zA0 (blk_below (g := gb190) (o := .cells #[.int .i64 a0_0, .slice A0_1 l0_1.length c0_1, .slice (some ad191) l0_2.length c0_2, .slice A0_3 l0_3.length c0_3] 132 (0, 0)) (zQ BK190) hb)
               have n4_ := zA0 (Kd.C_below (by repeat (first | (with_reducible exact HR213_0.out) | (with_reducible refine Kd.C_alloc ?_ _) | (with_reducible refine zcN ?_ _) | (with_reducible refine zcD ?_) | exact HR213_0.out)) hb)
               have n5_ := zA0 (below_step (by repeat (first | (with_reducible first | exact HB.out | apply zpA | apply zpN | apply zpD | refine below_set ?_ GE190.out) | exact HB.out)) hb)
               replace HO_6 := n0_; replace HO_36 := n1_; replace HL213_0 := n2_; replace BK190 := n3_; replace HR213_0 := n4_; replace HB := n5_; clear n0_ n1_ n2_ n3_ n4_ n5_
               (try clear hb)
               (try clear hb2)
               (try clear hk)
               (try clear hi)
               refine hK.out _ _ ⟨(blk_cell BK190.out 0).trans rfl, (blk_cell BK190.out 1).trans rfl, (blk_cell BK190.out 2).trans rfl, (blk_cell BK190.out 3).trans rfl, HS4_, HS5_⟩ (fun hHeld => ?_)
               clear hK K
               refine norm_ (a' := ?_) ?_ ?_
               rotate_left
               ·
                show Act.put _ (some 49) _ = _
                simp only [Act.put, List.setIfInBounds_toArray, List.set_cons_zero, List.set_cons_succ, i64_w, i32_w]
                rfl
               refine done_ (done_of HT_.out (by kernel_rfl)) ?_
               try go_wp2_with (first | ((with_reducible refine gate_builtin (b := .append) (xs := #[.tmp 50, .tmp 52]) rfl ?_); at_builtin; refine Kd.N_append (Kd.slice 3 (Kd.int .i64)) (w0 := w) w.heap.size rfl (.tmp 50) (.tmp 52) 23 22 (.slice none 0 0) 24 rfl Try.underlying23 info22 rfl (by decide) (by omega) u6 x6_1 (rd_L2 y210 x38_1) [.slice (some ad214) (rd_L2 y210 x38_1).length c213_0] (fun k_ => (w.heap.size ≤ k_) ∧ some k_ ≠ (.slice (some ad213) y210.length co26 : Value).ownBlock ∧ k_ ≠ gb190) (fun k_ => ((fun k_ => (w.heap.size ≤ k_) ∧ some k_ ≠ (.slice (some ad213) y210.length co26 : Value).ownBlock ∧ k_ ≠ gb190)) k_ ∧ some k_ ≠ (u6 : Value).ownBlock) rfl rfl ?aP (fun _ hk => hk) ?aF ?aO ?aB ?aS ?aL ?_; (case aP => exact (Kd.FK_slice_mk (Kd.V_reads' (Kd.V_mono (ok' := (fun k_ => ((fun k_ => (w.heap.size ≤ k_) ∧ some k_ ≠ (.slice (some ad213) y210.length co26 : Value).ownBlock ∧ k_ ≠ gb190)) k_ ∧ some k_ ≠ (u6 : Value).ownBlock)) (HL213_0.out) (fun k_ hk => ⟨⟨hk.1.1, ⟨hk.2, hk.1.2.2⟩⟩, hk.1.2.1⟩))).2.1 (Kd.V_F (Kd.V_mono (ok' := (fun k_ => ((fun k_ => (w.heap.size ≤ k_) ∧ some k_ ≠ (.slice (some ad213) y210.length co26 : Value).ownBlock ∧ k_ ≠ gb190)) k_ ∧ some k_ ≠ (u6 : Value).ownBlock)) (HL213_0.out) (fun k_ hk => ⟨⟨hk.1.1, ⟨hk.2, hk.1.2.2⟩⟩, hk.1.2.1⟩))))); (case aB => exact (by repeat (first | (with_reducible first | exact HB.out | apply zpA | apply zpN | apply zpD | refine below_set ?_ GE190.out) | exact HB.out))); (case aF => exact (fun k_ hk => ⟨(Nat.le_trans (below_size (by repeat (first | (with_reducible first | exact HB.out | apply zpA | apply zpN | apply zpD | refine below_set ?_ GE190.out) | exact HB.out))) hk), Kd.fresh' (Kd.N_lt (zN HO_36)) k_ hk, Kd.freshB (g := gb190) (o := .cells #[.int .i64 a0_0, .slice A0_1 l0_1.length c0_1, .slice (some ad191) l0_2.length c0_2, .slice A0_3 l0_3.length c0_3] 132 (0, 0)) (zQ BK190) k_ hk⟩)); (case aO => exact (zN HO_6)); (case aS => exact (below_size (by repeat (first | (with_reducible first | exact HB.out | apply zpA | apply zpN | apply zpD | refine below_set ?_ GE190.out) | exact HB.out)))); (case aL => have := LMc34.out; omega); intro v218 w37 ho hb hg hat; rw [← Ny217.out] at ho; have n0_ := zA0 (Kd.N_afterv (ok := (fun k_ => (w.heap.size ≤ k_) ∧ k_ ≠ gb190)) (by (with_reducible repeat (first | apply znA | apply znN | apply znD)); exact Kd.N_mono HO_36.out (fun _ hk => ⟨⟨hk.1, hk.2.2⟩, hk.2.1⟩)) hg hat); have n1_ := zA0 (blk_grown (g := gb190) (o := .cells #[.int .i64 a0_0, .slice A0_1 l0_1.length c0_1, .slice (some ad191) l0_2.length c0_2, .slice A0_3 l0_3.length c0_3] 132 (0, 0)) (zQ BK190) hg (Kd.N_ne HO_6.out BK190.out (by decide))); have n2_ := zA0 (Kd.V_afterv (ok := (fun k_ => (w.heap.size ≤ k_) ∧ some k_ ≠ (.slice (some ad213) y210.length co26 : Value).ownBlock ∧ k_ ≠ gb190)) (by (with_reducible repeat (first | apply Kd.V_alloc | apply Kd.V_drewN | apply Kd.V_drew)); exact Kd.V_mono HL213_0.out (fun _ hk => ⟨⟨hk.1.1, ⟨hk.2, hk.1.2.2⟩⟩, hk.1.2.1⟩)) hg hat); have n3_ := zA0 (hb); have n4_ := zA0 (ho); clear HO_6; replace HO_36 := n0_; replace BK190 := n1_; replace HL213_0 := n2_; replace HB := n3_; have HO219 := n4_; clear n0_ n1_ n2_ n3_ n4_; clear ho hb hg hat))
               go_roundg k1
               case measure => have := HK1.out; omega
               case rel => exact ⟨(y217), (wrap64 (x38_1 + 1)), (by first | rfl | (simp; done) | (simp [*]; done) | (simp; decide) | (simp; unfold wrap64; omega)), H', ⟨by have := HK1.out; omega⟩, ⟨zN HO219⟩, ⟨by (with_reducible repeat (first | apply znA | apply znN | apply znD)); exact Kd.N_mono HO_36.out (fun _ hk => ⟨hk.1.1, ⟨hk.2, hk.1.2⟩⟩)⟩, ⟨by (with_reducible repeat (first | refine blk_drewN ?_ _ | refine blk_drew ?_ | refine blk_alloc ?_ _)); exact BK190.out⟩, ⟨by repeat (first | (with_reducible first | exact HB.out | apply zpA | apply zpN | apply zpD | refine below_set ?_ GE190.out) | exact HB.out)⟩⟩
              ·
               rw [if_neg c34] at H
               exact absurd H (by simp)
             ·
              replace c33 := Bool.eq_false_iff.mpr c33
              subst c33
              rw [if_neg (show ¬ (false = true) by decide)] at H
              have H' := zA0 H
              clear H
              have p213 : 0 ≤ (x38_1 : Int) := of_decide_eq_true (by first | (with_reducible assumption) | assumption)
              have q213 : x38_1 < (y210.length : Int) := of_decide_eq_true (by first | (with_reducible assumption) | assumption)
              obtain ⟨ad213, A213_0, c213_0, e213, hx213_0, hl213_0, hi213_0⟩ := at_L2 (Kd.N_reads' HO_36.out).2.2 x38_1 p213 q213
              cases e213
              obtain ⟨ce213, hce213, hMe213, hcc213⟩ := Kd.N_get HO_36.out [] x38_1 p213 (by first | exact q213 | exact of_decide_eq_true (by first | (with_reducible assumption) | assumption) | (have e_ := (Kd.N_reads' HO_36.out).1; omega))
              obtain ⟨ua213_0, uc213_0, rfl, ul213_0, ge213_0⟩ := Kd.FK_slice_open hMe213
              have hv213_0 := hcc213 0 _ rfl
              rw [Nat.add_zero, show ((Kd.slice 3 (Kd.int .i64))).sz = 1 from rfl, Nat.mul_one] at hv213_0
              replace hv213_0 := Option.some.inj (hv213_0.symm.trans hx213_0)
              injection hv213_0 with hva_ hvn_ hvc_
              rw [hva_] at ge213_0
              rw [hvc_] at ul213_0
              have HL213_0 := zA0 (show Kd.V (Kd.int .i64) 3 _ w.heap.size _ _ (rd_L2 y210 x38_1) from Kd.V_mk ul213_0 ge213_0)
              clear hva_ hvn_ hvc_ ge213_0 ul213_0
              clear hcc213 hce213
              have HR213_0 := zA0 hi213_0
              have HC213_0 := zA0 hl213_0
              clear hi213_0 hl213_0
              replace p213 := eq_true p213
              replace q213 := eq_true q213
              try go_wp2
              have n0_ := zA0 (znD HO_6.out)
              have n1_ := zA0 (znD HO_36.out)
              have n2_ := zA0 (Kd.V_drew HL213_0.out)
              have n3_ := zA0 (blk_drew BK190.out)
              have n4_ := zA0 (zcD HR213_0.out)
              have n5_ := zA0 (zpD HB.out)
              replace HO_6 := n0_; replace HO_36 := n1_; replace HL213_0 := n2_; replace BK190 := n3_; replace HR213_0 := n4_; replace HB := n5_; clear n0_ n1_ n2_ n3_ n4_ n5_
              have p214 : 0 ≤ (0 : Int) := (by omega)
              have q214 : 0 < ((rd_L2 y210 x38_1).length : Int) := of_decide_eq_true (by first | (with_reducible assumption) | assumption)
              obtain ⟨ad214, e214, hx214_0⟩ := Kd.at_int (by repeat (first | (with_reducible exact HR213_0.out) | (with_reducible refine Kd.C_alloc ?_ _) | (with_reducible refine zcN ?_ _) | (with_reducible refine zcD ?_) | exact HR213_0.out)) 0 p214 q214
              cases e214
              have qi214 : (0 < (rd_L2 y210 x38_1).length) = True := eq_true (by omega)
              (try rw [show ((0 : Int)).toNat = 0 from rfl] at hx214_0)
              (try rw [Addr.add_zero'] at hx214_0)
              replace p214 := eq_true p214
              replace q214 := eq_true q214
              have p215 : 0 ≤ (1 : Int) := (by omega)
              have q215 : 1 < ((rd_L2 y210 x38_1).length : Int) := of_decide_eq_true (by first | (with_reducible assumption) | assumption)
              obtain ⟨ad215, e215, hx215_0⟩ := Kd.at_int (by repeat (first | (with_reducible exact HR213_0.out) | (with_reducible refine Kd.C_alloc ?_ _) | (with_reducible refine zcN ?_ _) | (with_reducible refine zcD ?_) | exact HR213_0.out)) 1 p215 q215
              obtain rfl : ad214 = ad215 := (by injection e215)
              (try simp only [show (1 : Int).toNat = 1 from rfl, Nat.reduceMul, Nat.reduceEqDiff, Go.Addr.add, ↓reduceIte] at hx215_0)
              have qi215 : (1 < (rd_L2 y210 x38_1).length) = True := eq_true (by omega)
              (try rw [show ((1 : Int)).toNat = 1 from rfl] at hx215_0)
              replace p215 := eq_true p215
              replace q215 := eq_true q215
              refine start_ (n := 8) (S := fun w' => w'.cell? ⟨gb190, 0, none⟩ = some (.int .i64 a0_0) ∧ w'.cell? ⟨gb190, 1, none⟩ = some (.slice A0_1 l0_1.length c0_1) ∧ w'.cell? ⟨gb190, 2, none⟩ = some (.slice (some ad191) l0_2.length c0_2) ∧ w'.cell? ⟨gb190, 3, none⟩ = some (.slice A0_3 l0_3.length c0_3) ∧ w'.cell? ad214 = some (.int .i64 (rd (rd_L2 y210 x38_1) 0)) ∧ w'.cell? ⟨ad214.block, ad214.off + 1, none⟩ = some (.int .i64 (rd (rd_L2 y210 x38_1) 1))) (ds := []) #[false, false, false, false, false, false, false, false] (by kernel_rfl) rfl rfl ⟨(blk_cell BK190.out 0).trans rfl, (blk_cell BK190.out 1).trans rfl, (blk_cell BK190.out 2).trans rfl, (blk_cell BK190.out 3).trans rfl, hx214_0, hx215_0⟩ (fun hHeld => ?_); refine with_tabW impl_house_doors.tab5 impl_house_doors.bits5 (fun HT_ HW_ => ?_)
              generalize wr.drew = w38 at HO_6 HO_36 HL213_0 BK190 HR213_0 HB hx214_0 hx215_0 hHeld ⊢
              refine pure_ (i := 1) (N := some 43) (v := ?_) (a' := ?_) #[false, true, false, false, false, false, false, false] rfl rfl (any_of HT_.out (by kernel_rfl)) (fun _ _ _ h => h) (Or.inl ⟨by rfl, ?_⟩) ?_ ?_
              rotate_left
              ·
               intro w'
               go_simp
               with_reducible rfl
              rotate_left
              ·
               simp only [Act.put, List.setIfInBounds_toArray, List.set_cons_zero, List.set_cons_succ, i64_w, i32_w]
               rfl
              refine pure_ (i := 2) (N := some 44) (v := ?_) (a' := ?_) #[false, true, true, false, false, false, false, false] rfl rfl (any_of HT_.out (by kernel_rfl)) (fun _ _ _ h => h) (Or.inl ⟨by rfl, ?_⟩) ?_ ?_
              rotate_left
              ·
               intro w'
               go_simp
               with_reducible rfl
              rotate_left
              ·
               simp only [Act.put, List.setIfInBounds_toArray, List.set_cons_zero, List.set_cons_succ, i64_w, i32_w]
               rfl
              refine pure_ (i := 4) (N := some 46) (v := ?_) (a' := ?_) #[false, true, true, false, true, false, false, false] rfl rfl (any_of HT_.out (by kernel_rfl)) (fun _ _ _ h => h) (Or.inl ⟨by rfl, ?_⟩) ?_ ?_
              rotate_left
              ·
               intro w'
               go_simp
               with_reducible rfl
              rotate_left
              ·
               simp only [Act.put, List.setIfInBounds_toArray, List.set_cons_zero, List.set_cons_succ, i64_w, i32_w]
               rfl
              refine pure_ (i := 5) (N := some 47) (v := ?_) (a' := ?_) #[false, true, true, false, true, true, false, false] rfl rfl (any_of HT_.out (by kernel_rfl)) (fun _ _ _ h => h) (Or.inl ⟨by rfl, ?_⟩) ?_ ?_
              rotate_left
              ·
               intro w'
               go_simp
               with_reducible rfl
              rotate_left
              ·
               simp only [Act.put, List.setIfInBounds_toArray, List.set_cons_zero, List.set_cons_succ, i64_w, i32_w]
               rfl
              refine take_ (i := 0) (N := some 42) (v := ?_) (a' := ?_) #[true, true, true, false, true, true, false, false] rfl rfl (take_ofW HT_.out HW_.out (by kernel_rfl)) (fun _ _ _ h => h) (Or.inl ⟨by rfl, ?_⟩) hHeld ?_ ?_
              rotate_left
              ·
               rintro w' ⟨s0, s1, s2, s3, s4, s5⟩
               go_simp
               with_reducible rfl
              rotate_left
              ·
               simp only [Act.put, List.setIfInBounds_toArray, List.set_cons_zero, List.set_cons_succ, i64_w, i32_w]
               rfl
              refine take_ (i := 3) (N := some 45) (v := ?_) (a' := ?_) #[true, true, true, true, true, true, false, false] rfl rfl (take_ofW HT_.out HW_.out (by kernel_rfl)) (fun _ _ _ h => h) (Or.inl ⟨by rfl, ?_⟩) hHeld ?_ ?_
              rotate_left
              ·
               rintro w' ⟨s0, s1, s2, s3, s4, s5⟩
               go_simp
               with_reducible rfl
              rotate_left
              ·
               simp only [Act.put, List.setIfInBounds_toArray, List.set_cons_zero, List.set_cons_succ, i64_w, i32_w]
               rfl
              refine take_ (i := 6) (N := some 48) (v := ?_) (a' := ?_) #[true, true, true, true, true, true, true, false] rfl rfl (take_ofW HT_.out HW_.out (by kernel_rfl)) (fun _ _ _ h => h) (Or.inl ⟨by rfl, ?_⟩) hHeld ?_ ?_
              rotate_left
              ·
               rintro w' ⟨s0, s1, s2, s3, s4, s5⟩
               go_simp
               with_reducible rfl
              rotate_left
              ·
               simp only [Act.put, List.setIfInBounds_toArray, List.set_cons_zero, List.set_cons_succ, i64_w, i32_w]
               rfl
              refine one_ (i := 7) (N := some 49) #[true, true, true, true, true, true, true, true] rfl rfl (one_of HT_.out (by kernel_rfl)) (by decide) (fun K hK => ?_)
              refine goes_ Try.func212 (by kernel_rfl) rfl #[.agg #[.int .i64 a0_0, .slice A0_1 l0_1.length c0_1, .slice (some ad191) l0_2.length c0_2, .slice A0_3 l0_3.length c0_3], .int .i64 (rd (rd_L2 y210 x38_1) 0), .int .i64 (rd (rd_L2 y210 x38_1) 1)] (by rfl) rfl rfl (by (try simp only [List.map_toArray, List.map_cons, List.map_nil]); first | done | rfl) ?_
              with_reducible refine (impl_house_isDoor.calls a0_0 _ _ l0_1 _ _ l0_2 _ _ l0_3 (rd (rd_L2 y210 x38_1) 0) (rd (rd_L2 y210 x38_1) 1) false _ ?side1 ?side2 ?side3 ?side4 ?side5 ?side6 A32.out).mono ?_
              (case side1 => exact zC (Kd.C_below HR0_1.out HB.out))
              (case side2 => exact HC0_1.out)
              (case side3 => exact zC (Kd.C_below HR0_2.out HB.out))
              (case side4 => exact HC0_2.out)
              (case side5 => exact zC (Kd.C_below HR0_3.out HB.out))
              (case side6 => exact HC0_3.out)
              rintro e w39 ⟨rfl, hb⟩
              have HS4_ := (hb.cell (World.block_lt_of_cell? _ _ (hHeld.2.2.2.2.1))).trans (hHeld.2.2.2.2.1)
              have HS5_ := (hb.cell (World.block_lt_of_cell? _ _ (hHeld.2.2.2.2.2))).trans (hHeld.2.2.2.2.2)
              refine ⟨_, rfl, ?_⟩
              have n0_ := zA0 (Kd.N_below (zN HO_6) hb)
              have n1_ := zA0 (Kd.N_below (zN HO_36) hb)
              have n2_ := zA0 (Kd.V_below (zV HL213_0) hb)
              have n3_ := zA0 (blk_below (g := gb190) (o := .cells #[.int .i64 a0_0, .slice A0_1 l0_1.length c0_1, .slice (some ad191) l0_2.length c0_2, .slice A0_3 l0_3.length c0_3] 132 (0, 0)) (zQ BK190) hb)
              have n4_ := zA0 (Kd.C_below (by repeat (first | (with_reducible exact HR213_0.out) | (with_reducible refine Kd.C_alloc ?_ _) | (with_reducible refine zcN ?_ _) | (with_reducible refine zcD ?_) | exact HR213_0.out)) hb)
              have n5_ := zA0 (below_step (by repeat (first | (with_reducible first | exact HB.out | apply zpA | apply zpN | apply zpD | refine below_set ?_ GE190.out) | exact HB.out)) hb)
              replace HO_6 := n0_; replace HO_36 := n1_; replace HL213_0 := n2_; replace BK190 := n3_; replace HR213_0 := n4_; replace HB := n5_; clear n0_ n1_ n2_ n3_ n4_ n5_
              (try clear hb)
              (try clear hb2)
              (try clear hk)
              (try clear hi)
              refine hK.out _ _ ⟨(blk_cell BK190.out 0).trans rfl, (blk_cell BK190.out 1).trans rfl, (blk_cell BK190.out 2).trans rfl, (blk_cell BK190.out 3).trans rfl, HS4_, HS5_⟩ (fun hHeld => ?_)
              clear hK K
              refine norm_ (a' := ?_) ?_ ?_
              rotate_left
              ·
               show Act.put _ (some 49) _ = _
               simp only [Act.put, List.setIfInBounds_toArray, List.set_cons_zero, List.set_cons_succ, i64_w, i32_w]
               rfl
              refine done_ (done_of HT_.out (by kernel_rfl)) ?_
              try go_wp2
              go_roundg k1
              case measure => have := HK1.out; omega
              case rel => exact ⟨(x6_1), (wrap64 (x38_1 + 1)), (by first | rfl | (simp; done) | (simp [*]; done) | (simp; decide) | (simp; unfold wrap64; omega)), H', ⟨by have := HK1.out; omega⟩, ⟨zN HO_6⟩, ⟨zN HO_36⟩, ⟨by (with_reducible repeat (first | refine blk_drewN ?_ _ | refine blk_drew ?_ | refine blk_alloc ?_ _)); exact BK190.out⟩, ⟨by repeat (first | (with_reducible first | exact HB.out | apply zpA | apply zpN | apply zpD | refine below_set ?_ GE190.out) | exact HB.out)⟩⟩
            ·
             rw [if_neg c31] at H
             exact absurd H (by simp)
           ·
            rw [if_neg c30] at H
            exact absurd H (by simp)
          ·
           rw [if_neg c29] at H
           exact absurd H (by simp)
         ·
          rw [if_neg c28] at H
          exact absurd H (by simp)
        ·
         rw [if_neg c27] at H
         have c27b0 : decide (x38_1 < (y210.length : Int)) = false := decide_eq_false c27
         clear c27
         obtain rfl := Option.some.inj H
         go_wp2
         go_ret
         exact ⟨_, by first | rfl | (simp [errW_none, errW_some] <;> rfl) | (simp [*, errW_none, errW_some] <;> rfl), by (with_reducible repeat (first | apply znA | apply znN | apply znD)); exact Kd.N_mono HO_6.out (fun _ hk => hk.1), by repeat (first | (with_reducible first | exact HB.out | apply zpA | apply zpN | apply zpD | refine below_set ?_ GE190.out) | exact HB.out)⟩
     ·
      rw [if_neg c7] at H
      exact absurd H (by simp)
    ·
     rw [if_neg c6] at H
     exact absurd H (by simp)
   ·
    rw [if_neg c5] at H
    exact absurd H (by simp)
  ·
   rw [if_neg c4] at H
   exact absurd H (by simp)
 ·
  rw [if_neg c3] at H
  exact absurd H (by simp)
end Go.Proofs.Ytckiebdehlcjoaa.P
namespace Go.Proofs.Ytckiebdehlcjoaa.P
open Go.Proofs.Ytckiebdehlcjoaa.Own
open Go.RowKit Go.Proofs.YtckiebdehlcjoaaW.PrintWords Go.Proofs.YtckiebdehlcjoaaW.PrintLast Go.Proofs.YtckiebdehlcjoaaW.PrintMore
attribute [local go_sem] max2_int min2_int max_two min_two max_three min_three max_four min_four   -- for this text's walks alone
set_option linter.unusedVariables false
set_option linter.unusedSimpArgs false
def impl_house_enter.T2 : Bool × List (List Nat × List Nat) := (true, [([], []), ([], []), ([], []), ([1, 2], [1, 2]), ([], []), ([0, 3, 4, 3], [0, 3, 4]), ([5], [5]), ([5], [5]), ([5], [5]), ([6, 5, 0, 1, 2, 3, 4, 5, 6, 7, 8], [6]), ([7, 9, 0, 1, 2, 3, 4, 5, 6, 7, 8, 9], [7]), ([8, 10, 0, 1, 2, 3, 4, 5, 6, 7, 8, 9, 10], [8])])
def impl_house_enter.B2 : List Nat := [0, 0, 0, 6, 0, 31, 63, 63, 63, 511, 1023, 2047]
theorem impl_house_enter.tab2 : rtab .any (opsOf Try.f342 2) = impl_house_enter.T2 := by kernel_rfl
theorem impl_house_enter.bits2 : waitsOk impl_house_enter.T2.2 impl_house_enter.B2 = true := by kernel_rfl
end Go.Proofs.Ytckiebdehlcjoaa.P
