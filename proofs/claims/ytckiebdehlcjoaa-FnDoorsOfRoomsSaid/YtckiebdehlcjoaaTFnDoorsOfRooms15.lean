/- A part of the proof of the law FnDoorsOfRooms. -/
import Derived.Test.YtckiebdehlcjoaaTFnDoorsOfRooms14
import Derived.Test.YtckiebdehlcjoaaTFnDoorsOfRooms13
namespace Go.Proofs.Ytckiebdehlcjoaa.Own
open Go.RowKit Go.Proofs.YtckiebdehlcjoaaW.PrintWords Go.Proofs.YtckiebdehlcjoaaW.PrintLast Go.Proofs.YtckiebdehlcjoaaW.PrintMore
set_option linter.unusedVariables false
set_option linter.unusedSimpArgs false
/-- the places at which b does not hold, from place j on -/
def kp {α : Type} (b : Nat → Bool) : List α → Nat → List α
  | [], _ => []
  | x :: l, j => if b j = true then kp b l (j + 1) else x :: kp b l (j + 1)
/-- the first place from j on at which b holds, or -1 -/
def ixB (b : Nat → Bool) : Nat → Nat → Int
  | 0, _ => -1
  | n + 1, j => if b j = true then (j : Int) else ixB b n (j + 1)
theorem kp_append {α : Type} (b : Nat → Bool) : ∀ (l m : List α) (j : Nat), kp b (l ++ m) j = kp b l j ++ kp b m (j + l.length)
  | [], m, j => by simp [kp]
  | x :: l, m, j => by
    have ih := kp_append b l m (j + 1)
    simp only [List.cons_append, kp, List.length_cons]
    rw [ih, show j + 1 + l.length = j + (l.length + 1) by omega]
    split <;> rfl
theorem kp_take {α : Type} (b : Nat → Bool) (l : List α) (j : Nat) (h : j < l.length) : kp b (l.take (j + 1)) 0 = kp b (l.take j) 0 ++ (if b j = true then [] else [l[j]]) := by
  rw [List.take_add_one, List.getElem?_eq_getElem h, Option.toList_some, kp_append]
  congr 1
  rw [List.length_take, Nat.zero_add, Nat.min_eq_left (Nat.le_of_lt h)]
  simp only [kp]
theorem ixB_spec {α : Type} (b : Nat → Bool) : ∀ (l : List α) (j : Nat), (ixB b l.length j = -1 ∧ kp b l j = l) ∨ ∃ k : Nat, k < l.length ∧ ixB b l.length j = j + k ∧ kp b (l.take (k + 1)) j = l.take k
  | [], j => .inl ⟨rfl, rfl⟩
  | x :: l, j => by
    simp only [List.length_cons, ixB]
    cases h : b j with
    | true => exact .inr ⟨0, by simp, by simp, by simp [kp, h]⟩
    | false =>
      rcases ixB_spec b l (j + 1) with ⟨e, f⟩ | ⟨k, hk, e, f⟩
      · exact .inl ⟨by simpa using e, by simp [kp, h, f]⟩
      · refine .inr ⟨k + 1, by simpa using hk, ?_, ?_⟩
        · simp only [Bool.false_eq_true, if_false]; rw [e]; omega
        · rw [List.take_succ_cons, kp, h, if_neg (by decide), f, List.take_succ_cons]
theorem kp_filter {α : Type} (p : α → Bool) (b : Nat → Bool) : ∀ (l : List α) (j : Nat), (∀ i x, l[i]? = some x → b (j + i) = p x) → kp b l j = l.filter fun x => !p x
  | [], j, _ => rfl
  | x :: l, j, h => by
    have h0 := h 0 x rfl
    have ih := kp_filter p b l (j + 1) (fun i y hy => by have := h (i + 1) y (by simpa using hy); rwa [show j + (i + 1) = j + 1 + i by omega] at this)
    rw [Nat.add_zero] at h0
    simp only [kp, h0, ih]
    cases hp : p x <;> simp [hp]
structure DelInvB {α : Type} (b : Nat → Bool) (l : List α) (i j : Nat) (cur : List α) : Prop where
  len : cur.length = l.length
  lt : i < j
  le : j ≤ l.length
  low : cur.take i = kp b (l.take j) 0
  high : cur.drop j = l.drop j
theorem DelInvB.at_ {α : Type} {b : Nat → Bool} {l : List α} {i j : Nat} {cur : List α} (h : DelInvB b l i j cur) (hj : j < l.length) : cur[j]? = some l[j] := by
  have e : (cur.drop j)[0]? = (l.drop j)[0]? := by rw [h.high]
  rw [List.getElem?_drop, List.getElem?_drop, Nat.add_zero] at e
  rw [e, List.getElem?_eq_getElem hj]
theorem DelInvB.keep {α : Type} {b : Nat → Bool} {l : List α} {i j : Nat} {cur : List α} (h : DelInvB b l i j cur) (hj : j < l.length) (hq : b j = false) : DelInvB b l (i + 1) (j + 1) (cur.set i l[j]) := by
  have h1 := h.lt
  refine ⟨by rw [List.length_set, h.len], by omega, by omega, ?_, ?_⟩
  · rw [kp_take b l j hj, ← h.low, if_neg (by rw [hq]; decide), List.take_add_one, List.take_set_of_le (Nat.le_refl i), List.getElem?_set_self (by rw [h.len]; omega), Option.toList_some]
  · rw [List.drop_set_of_lt (by omega), ← List.drop_drop, h.high, List.drop_drop]
theorem DelInvB.skip {α : Type} {b : Nat → Bool} {l : List α} {i j : Nat} {cur : List α} (h : DelInvB b l i j cur) (hj : j < l.length) (hq : b j = true) : DelInvB b l i (j + 1) cur := by
  have h1 := h.lt
  refine ⟨h.len, by omega, by omega, ?_, ?_⟩
  · rw [kp_take b l j hj, ← h.low, if_pos hq, List.append_nil]
  · rw [← List.drop_drop, h.high, List.drop_drop]
theorem ixB_step (b : Nat → Bool) (n i : Nat) (h : i < n) : ixB b (n - i) i = if b i = true then (i : Int) else ixB b (n - (i + 1)) (i + 1) := by
  obtain ⟨m, hm⟩ : ∃ m, n - i = m + 1 := ⟨n - i - 1, by omega⟩
  rw [hm, show n - (i + 1) = m by omega]; rfl
theorem own_slot {W : World} {base g n cap : Nat} {e : TypeId} {us : List Value} (h : W.ownsRow base e 1 (.slice (some ⟨g, 0, none⟩) n cap) n us) (i : Nat) (hi : i < n) : ∃ u, us[i]? = some u ∧ W.cell? ⟨g, i, none⟩ = some u ∧ W.frozen? ⟨g, i, none⟩ = false := by
  have hl : us.length = n := by have := h.1; omega
  have he : encs (fun v : Value => v) us = us := by simp [encs]
  have := own_at_of (enc := fun v : Value => v) (d := undef) (xs := us) (by rw [he]; exact h) (i : Int) (by omega) (by omega)
  rw [Int.toNat_natCast] at this
  refine ⟨us[i], List.getElem?_eq_getElem (by omega), ?_, this.2⟩
  rw [this.1]
  congr 1
  unfold rdOf
  rw [Int.toNat_natCast, List.getD_eq_getElem?_getD, List.getElem?_eq_getElem (by omega)]; rfl
theorem own_putv {W : World} {base g n cap : Nat} {e : TypeId} {us : List Value} (h : W.ownsRow base e 1 (.slice (some ⟨g, 0, none⟩) n cap) n us) (i : Nat) (u : Value) :
    (W.setCell ⟨g, i, none⟩ u).ownsRow base e 1 (.slice (some ⟨g, 0, none⟩) n cap) n (us.set i u) ∧ W.grownBy (W.setCell ⟨g, i, none⟩ u) (some g) := by
  have he : ∀ l : List Value, encs (fun v : Value => v) l = l := fun l => by simp [encs]
  have := own_store_of (enc := fun v : Value => v) (xs := us) (by rw [he]; exact h) (i : Int) u
  rw [Int.toNat_natCast, he] at this
  exact this
theorem store_one {P : Program} {W : World} {g i : Nat} {u old : Value} (ci : W.cell? ⟨g, i, none⟩ = some old) (fi : W.frozen? ⟨g, i, none⟩ = false) (hone : u.oneCell' = true) (q : Nat) :
    Sem.run P (storeCells ⟨g, i, none⟩ [u]) (W.drewN q) = .ok () ((W.drewN q).setCell ⟨g, i, none⟩ u) := by
  have h := run_storeCells_cells (P := P) g i [u] 0 (W.drewN q)
    (by
      intro j hj
      obtain rfl : j = 0 := by simpa using hj
      show ((W.drewN q).cell? ⟨g, i, none⟩).isSome = true
      rw [show (W.drewN q).cell? ⟨g, i, none⟩ = some old from ci]; rfl)
    (by
      intro j hj
      obtain rfl : j = 0 := by simpa using hj
      exact fi)
    (by
      intro v hv
      rw [List.mem_singleton.1 hv]; exact hone)
  simpa [World.setCells] using h
set_option maxHeartbeats 2000000 in
theorem IndexFunc_rows (g : Nat) (lb : Array Value) (b : Nat → Bool) (base : Nat) (v : Value) (us : List Value) (w : World)
    (eg : ∀ args w, (callFunc g args).run Try.prog w = .ok (.enter g args) w)
    (HO : w.ownsRow base 22 1 v us.length us) (hm : us.length ≤ 9223372036854775807)
    (hp : ∀ (j : Nat) (u : Value) (W : World), us[j]? = some u → Below w.heap.size w W → Calls Try.prog g (#[u] ++ lb) W fun e w' => e = .returned (.bool (b j)) ∧ Below W.heap.size W w') :
    Calls Try.prog 321 #[v, .func (.func g) #[] lb] w fun e w' => e = .returned (.int .i64 (ixB b us.length 0)) ∧ Below w.heap.size w w' := by
  obtain ⟨A, c, rfl⟩ := own_slice HO
  have HA : 0 < us.length → ∃ g0, A = some ⟨g0, 0, none⟩ := fun h => by
    obtain ⟨g0, cap, e, _, _⟩ := HO.form h
    injection e with e
    exact ⟨g0, e⟩
  have HO2 := zA0 HO
  clear HO
  go_enter Try.func321, Try.ntmps321
  go_wp2
  go_loopg [5, 8] us.length (fun gg _ s8 wr => ∃ kk : Nat, kk ≤ us.length ∧ us.length - kk ≤ gg ∧ s8 = .int .i64 kk ∧ Aside0 (Below w.heap.size w wr) ∧ Aside0 (ixB b (us.length - kk) kk = ixB b us.length 0))
  case atStart => exact ⟨0, Nat.zero_le _, by omega, rfl, ⟨by repeat (first | exact Below.refl _ _ | apply zpA | apply zpN | apply below_drew)⟩, ⟨rfl⟩⟩
  case round =>
    obtain ⟨kk, hkk, hg, rfl, HB, X⟩ := hrel
    by_cases hlt : kk < us.length
    · have hltz : (kk : Int) < (us.length : Int) := by omega
      obtain ⟨g0, rfl⟩ := HA (by omega)
      obtain ⟨u, hu, hx, _⟩ := own_slot (pw_own_below HO2.out HB.out) kk hlt
      have hcall := hp kk u wr hu HB.out
      clear hp hu HA
      have st := zA0 (ixB_step b us.length kk hlt)
      cases hq : b kk with
      | true =>
        rw [hq] at hcall st
        go_wp2_with (go_at_fn g; refine hcall.mono ?_; rintro e w' ⟨rfl, hb⟩; have HB2 := zA0 (below_then HB.out HB.out.size hb); clear hb)
        go_ret
        refine ⟨?_, HB2.out⟩
        rw [← X.out, st.out]; simp
      | false =>
        rw [hq] at hcall st
        go_wp2_with (go_at_fn g; refine hcall.mono ?_; rintro e w' ⟨rfl, hb⟩; have HB2 := zA0 (below_then HB.out HB.out.size hb); clear hb)
        go_roundg (us.length - (kk + 1))
        case measure => omega
        case rel =>
          refine ⟨kk + 1, by omega, by omega, by go_num, HB2, ⟨?_⟩⟩
          rw [← X.out, st.out]; simp
    · have hltz : decide ((kk : Int) < (us.length : Int)) = false := decide_eq_false (by omega)
      have hlty : decide (kk < us.length) = false := decide_eq_false hlt
      have X2 : Aside0 (ixB b us.length 0 = -1) := ⟨by rw [← X.out, show us.length - kk = 0 by omega]; rfl⟩
      clear X hp HA
      go_wp2
      go_ret
      refine ⟨?_, HB.out⟩
      rw [X2.out]; rfl
set_option maxHeartbeats 2000000 in
set_option maxRecDepth 1000000 in
theorem DeleteFunc_rows (g : Nat) (lb : Array Value) (b : Nat → Bool) (base : Nat) (v : Value) (us : List Value) (w : World)
    (eg : ∀ args w, (callFunc g args).run Try.prog w = .ok (.enter g args) w)
    (HO : w.ownsRow base 22 1 v us.length us) (HB : base ≤ w.heap.size) (h1 : ∀ u ∈ us, u.oneCell' = true)
    (hp : ∀ (j : Nat) (u : Value) (W : World), us[j]? = some u → w.grownBy W v.ownBlock → Calls Try.prog g (#[u] ++ lb) W fun e w' => e = .returned (.bool (b j)) ∧ Below W.heap.size W w') :
    Calls Try.prog 297 #[v, .func (.func g) #[] lb] w fun e w' => ∃ v', e = .returned v' ∧ w'.ownsRow base 22 1 v' (kp b us 0).length (kp b us 0) ∧ w.grownBy w' v.ownBlock ∧ (v'.ownBlock = v.ownBlock) := by
  obtain ⟨A, c, rfl⟩ := own_slice HO
  have hm : us.length ≤ 9223372036854775807 := by
    rcases HO.2 with ⟨_, h0⟩ | ⟨g', cap', cur, he, _, _, h1, h2, _⟩
    · omega
    · simp only [maxLen] at h2
      omega
  have hIF := IndexFunc_rows g lb b base _ us w eg HO hm (fun j u W hj hW => hp j u W hj (grown_of_below hW _))
  rcases ixB_spec b us 0 with ⟨e1, hf⟩ | ⟨k0, hk0, e1, hf⟩
  · rw [e1] at hIF
    have HO2 := zA0 HO
    clear HO hp
    go_enter Try.func297, Try.ntmps297
    go_wp2_with (go_at_call 321; refine hIF.mono ?_; rintro e w' ⟨rfl, hb⟩; have HB2 := zA0 hb; clear hb)
    go_ret
    rw [hf]
    exact ⟨_, rfl, pw_own_below HO2.out HB2.out, grown_of_below HB2.out _, rfl⟩
  · rw [e1] at hIF
    have hlen : 0 < us.length := by omega
    obtain ⟨g0, cap, cur0, he, hg0, hh, hnc, hcm, hcs, ht⟩ : ∃ g cap cur, Value.slice A us.length c = .slice (some ⟨g, 0, none⟩) us.length cap ∧ base ≤ g ∧ w.heap[g]? = some (.cells cur 22 (0, 0)) ∧ us.length ≤ cap ∧ cap ≤ maxLen ∧ cur.size = cap * 1 ∧ cur.toList.take (us.length * 1) = us := by
      rcases HO.2 with ⟨_, h0⟩ | h
      · omega
      · exact h
    injection he with hA _ hc
    subst hA; subst hc
    have hbk : (Value.slice (some (⟨g0, 0, none⟩ : Addr)) us.length c).ownBlock = some g0 := rfl
    rw [hbk] at hp ⊢
    have hbig : us.length ≤ 9223372036854775807 := by have := hcm; simp only [maxLen] at this; omega
    have HP := zA0 hp
    have HO2 := zA0 HO
    have H1 := zA0 h1
    clear HO hp ht hcs h1 hh
    go_enter Try.func297, Try.ntmps297
    rw [show ((0 : Nat) : Int) + (k0 : Int) = (k0 : Int) by omega] at hIF
    have hne1 : ((k0 : Int) == -1) = false := beq_eq_false_iff_ne.2 (by omega)
    go_wp2_with (go_at_call 321; refine hIF.mono ?_; rintro e w' ⟨rfl, hb⟩; have HB2 := zA0 hb; clear hb)
    go_loopg [5, 6, 7] us.length (fun gg s5 s6 _ wr => ∃ (i j : Nat) (cur : List Value), s5 = .int .i64 i ∧ s6 = .int .i64 j ∧ j ≤ us.length ∧ us.length - j ≤ gg ∧ Aside0 (DelInvB b us i j cur) ∧ Aside0 (wr.ownsRow base 22 1 (.slice (some ⟨g0, 0, none⟩) us.length c) us.length cur) ∧ Aside0 (w.grownBy wr (some g0)))
    case atStart =>
      exact ⟨k0, k0 + 1, us, rfl, by go_num, by omega, by omega, ⟨⟨rfl, by omega, by omega, hf.symm, rfl⟩⟩, ⟨pw_own_below HO2.out HB2.out⟩, ⟨grown_of_below HB2.out _⟩⟩
    case round =>
      clear HB2
      obtain ⟨i, j, cur, rfl, rfl, hjd, hgg, I, HW, HG⟩ := hrel
      have hij := I.out.lt
      have hcl := I.out.len
      by_cases hlt : j < us.length
      · have hltz : (j : Int) < (us.length : Int) := by omega
        obtain ⟨u, hu, cj, _⟩ := own_slot HW.out j hlt
        have hu2 := I.out.at_ hlt
        rw [hu] at hu2
        have hu3 : us[j]? = some u := by rw [List.getElem?_eq_getElem hlt]; exact hu2.symm
        have hone : u.oneCell' = true := H1.out u (List.mem_of_getElem? hu3)
        have hcall := HP.out j u wr hu3 HG.out
        injection hu2 with hu2
        have hkeep := zA0 (I.out.keep hlt)
        have hskip := zA0 (I.out.skip hlt)
        rw [← hu2] at hkeep
        clear hu hu2 hu3
        cases hq : b j with
        | false =>
          rw [hq] at hcall
          have hk := zA0 (hkeep.out hq)
          clear hkeep hskip
          go_wp2_with (go_at_fn g; refine hcall.mono ?_; rintro e w2 ⟨rfl, hb⟩; have HW2 := zA0 (pw_own_below HW.out hb); have HG2 := zA0 (World.grownBy.trans HG.out (grown_of_below hb (some g0))); clear hb; obtain ⟨old, _, ci, fi⟩ := own_slot HW2.out i (by omega); have hsc := store_one (P := Try.prog) ci fi hone 0)
          rw [show w2 = w2.drewN 0 from rfl, hsc]
          go_wp2
          go_roundg (us.length - (j + 1))
          case measure => omega
          case rel =>
            have hput := own_putv HW2.out i u
            exact ⟨i + 1, j + 1, cur.set i u, by go_num, by go_num, by omega, Nat.le_refl _, hk, ⟨hput.1⟩, ⟨World.grownBy.trans HG2.out hput.2⟩⟩
        | true =>
          rw [hq] at hcall
          have hk := zA0 (hskip.out hq)
          clear hkeep hskip
          go_wp2_with (go_at_fn g; refine hcall.mono ?_; rintro e w2 ⟨rfl, hb⟩; have HW2 := zA0 (pw_own_below HW.out hb); have HG2 := zA0 (World.grownBy.trans HG.out (grown_of_below hb (some g0))); clear hb)
          go_roundg (us.length - (j + 1))
          case measure => omega
          case rel =>
            exact ⟨i, j + 1, cur, rfl, by go_num, by omega, Nat.le_refl _, hk, HW2, HG2⟩
      · obtain rfl : j = us.length := by omega
        have hltz : ¬ (us.length : Int) < (us.length : Int) := by omega
        have hz : ∀ w, (zeroValue 22).run Try.prog w = .ok (.slice none 0 0) w := fun w => by kernel_rfl
        have hclr : ∀ ty, (Builtin.clear_ #[23] ty #[.slice (some ⟨g0, i, none⟩) (us.length - i) (c - i)]).run Try.prog wr = .ok (.tuple #[]) (wr.setCells g0 i (List.replicate (us.length - i) (.slice none 0 0))) :=
          fun ty => Lib.run_clear_slice wr _ _ ty _ Try.underlying23 hz rfl rfl g0 i _ _ (by omega)
            (fun t ht => by obtain ⟨_, _, h, _⟩ := own_slot HW.out (i + t) (by omega); rw [h]; rfl)
            (fun t ht => by obtain ⟨_, _, _, h⟩ := own_slot HW.out (i + t) (by omega); rw [h])
        have hic : i ≤ c := by omega
        have hil : i ≤ us.length := by omega
        clear HP hcl
        go_wp2
        go_ret
        have hr : kp b us 0 = cur.take i := by
          have := I.out.low
          rw [List.take_length] at this
          exact this.symm
        have hl : (cur.take i).length = i := by rw [List.length_take, I.out.len]; omega
        have hc := own_cleared (vs := cur) (us := List.replicate (us.length - i) (Value.slice none 0 0)) (i := i) (by rw [I.out.len]; exact HW.out) (by rw [List.length_replicate, I.out.len]; omega) (by rw [I.out.len]; omega)
        rw [hr, hl]
        exact ⟨_, rfl, hc.1, World.grownBy.trans HG.out hc.2, rfl⟩
theorem kp_pair {α β : Type} (b : Nat → Bool) : ∀ (l : List α) (m : List β) (j : Nat), l.length = m.length → ∀ (i : Nat) (x : α) (y : β), (kp b l j)[i]? = some x → (kp b m j)[i]? = some y → ∃ n : Nat, l[n]? = some x ∧ m[n]? = some y
  | [], [], _, _, i, x, y, h, _ => by simp [kp] at h
  | x0 :: l, y0 :: m, j, hl, i, x, y, hx, hy => by
    have hl' : l.length = m.length := by simpa using hl
    simp only [kp] at hx hy
    by_cases hb : b j = true
    · rw [if_pos hb] at hx hy
      obtain ⟨n, h1, h2⟩ := kp_pair b l m (j + 1) hl' i x y hx hy
      exact ⟨n + 1, by simpa using h1, by simpa using h2⟩
    · rw [if_neg hb] at hx hy
      cases i with
      | zero => exact ⟨0, by simpa using hx, by simpa using hy⟩
      | succ i =>
        obtain ⟨n, h1, h2⟩ := kp_pair b l m (j + 1) hl' i x y (by simpa using hx) (by simpa using hy)
        exact ⟨n + 1, by simpa using h1, by simpa using h2⟩
theorem kp_length {α β : Type} (b : Nat → Bool) : ∀ (l : List α) (m : List β) (j : Nat), l.length = m.length → (kp b l j).length = (kp b m j).length
  | [], [], _, _ => rfl
  | x0 :: l, y0 :: m, j, hl => by
    have ih := kp_length b l m (j + 1) (by simpa using hl)
    simp only [kp]
    split <;> simp [ih]
theorem DeleteFunc_N (g : Nat) (lb : Array Value) (p : List Int → Bool) (base : Nat) (v : Value) (xs : List (List Int)) (ok : Nat → Prop) (w : World)
    (eg : ∀ args w, (callFunc g args).run Try.prog w = .ok (.enter g args) w)
    (HN : Kd.N (Kd.slice 3 (Kd.int .i64)) 22 w base ok v xs) (HB : base ≤ w.heap.size)
    (hp : ∀ (x : List Int) (A : Option Addr) (c : Nat) (W : World), x ∈ xs → x.length ≤ c → Kd.C (Kd.int .i64) W A x.length x → w.grownBy W v.ownBlock → Calls Try.prog g (#[.slice A x.length c] ++ lb) W fun e w' => e = .returned (.bool (p x)) ∧ Below W.heap.size W w') :
    Calls Try.prog 297 #[v, .func (.func g) #[] lb] w fun e w' => ∃ v', e = .returned v' ∧ Kd.N (Kd.slice 3 (Kd.int .i64)) 22 w' base ok v' (xs.filter fun x => !p x) ∧ w.grownBy w' v.ownBlock ∧ v'.ownBlock = v.ownBlock := by
  obtain ⟨h0, rows, hl, hR, hf⟩ := HN
  obtain ⟨_, us, ho, hr⟩ := hR
  have hul : us.length = rows.length := by have := hr.1; simpa [Kd.raw, Kd.slice] using this
  have hat : ∀ (j : Nat) (c : List Value), rows[j]? = some c → ∃ u, us[j]? = some u ∧ c = [u] ∧ u.oneCell' = true := by
    intro j c hc
    obtain ⟨e1, e2, e3⟩ := hr.2 j c hc
    have hj : j < us.length := by rw [hul]; exact (List.getElem?_eq_some_iff.1 hc).1
    have e1 : (us.drop (j * 1)).take 1 = c := e1
    rw [Nat.mul_one, List.drop_eq_getElem_cons hj] at e1
    have e4 : c = [us[j]] := by rw [← e1]; rfl
    exact ⟨us[j], List.getElem?_eq_getElem hj, e4, e3 _ (by show us[j] ∈ (us.drop (j * 1)).take 1; rw [Nat.mul_one, List.drop_eq_getElem_cons hj, List.take_succ_cons]; exact List.mem_cons_self)⟩
  have hlen : us.length = xs.length := by rw [hul, hl]
  have hrow : ∀ (j : Nat) (u : Value), us[j]? = some u → rows[j]? = some [u] ∧ u.oneCell' = true := by
    intro j u hu
    have hj : j < rows.length := by rw [← hul]; exact (List.getElem?_eq_some_iff.1 hu).1
    obtain ⟨u', h1, h2, h3⟩ := hat j rows[j] (List.getElem?_eq_getElem hj)
    rw [hu] at h1
    injection h1 with h1
    subst h1
    exact ⟨by rw [List.getElem?_eq_getElem hj, h2], h3⟩
  have hD := DeleteFunc_rows g lb (fun j => p (xs.getD j [])) base v us w eg (by rw [hul]; exact ho) HB
    (fun u hu => by
      obtain ⟨j, hj, rfl⟩ := List.getElem_of_mem hu
      exact (hrow j _ (List.getElem?_eq_getElem hj)).2)
    (fun j u W hu hg => by
      have hj : j < xs.length := by rw [← hlen]; exact (List.getElem?_eq_some_iff.1 hu).1
      have hx : xs[j]? = some xs[j] := List.getElem?_eq_getElem hj
      obtain ⟨A, c, e, hc, hC⟩ := hf j _ _ hx (hrow j u hu).1 W (fun k hk hlt => hg.block k hlt hk.2)
      injection e with e _
      subst e
      have := hp xs[j] A c W (List.getElem_mem _) hc hC hg
      rw [show xs.getD j [] = xs[j] by simp [List.getD_eq_getElem?_getD, hx]]
      exact this)
  refine hD.mono ?_
  rintro e w' ⟨v', rfl, ho', hg, hb⟩
  have hk : kp (fun j => p (xs.getD j [])) xs 0 = xs.filter fun x => !p x := kp_filter p _ xs 0 (fun i x hx => by simp [List.getD_eq_getElem?_getD, hx])
  refine ⟨v', rfl, ⟨fun k hk' => h0 k (by rw [← hb]; exact hk'), (kp (fun j => p (xs.getD j [])) us 0).map fun u => [u], ?_, ⟨fun k hk' => hk'.symm, _, by rw [List.length_map]; exact ho', ?_, ?_⟩, ?_⟩, hg, hb⟩
  · rw [List.length_map, ← hk]; exact kp_length _ _ _ _ hlen
  · rw [List.length_map]; exact (Nat.mul_one _).symm
  · intro j c hc
    rw [List.getElem?_map] at hc
    obtain ⟨u, hu, rfl⟩ := Option.map_eq_some_iff.1 hc
    have hj := (List.getElem?_eq_some_iff.1 hu).1
    have he : ((kp (fun j => p (xs.getD j [])) us 0).drop (j * 1)).take 1 = [u] := by
      rw [Nat.mul_one, List.drop_eq_getElem_cons hj, (List.getElem?_eq_some_iff.1 hu).2]; rfl
    obtain ⟨n, _, hn⟩ := kp_pair _ us us 0 rfl j u u hu hu
    refine ⟨he, ?_, ?_⟩
    · show (((kp (fun j => p (xs.getD j [])) us 0).drop (j * 1)).take 1).length = 1
      rw [he]; rfl
    · show ∀ z ∈ ((kp (fun j => p (xs.getD j [])) us 0).drop (j * 1)).take 1, z.oneCell' = true
      rw [he]
      intro z hz
      rw [List.mem_singleton.1 hz]
      exact (hrow n u hn).2
  · intro j x c hx hc
    rw [← hk] at hx
    rw [List.getElem?_map] at hc
    obtain ⟨u, hu, rfl⟩ := Option.map_eq_some_iff.1 hc
    obtain ⟨n, hn1, hn2⟩ := kp_pair _ xs us 0 hlen.symm j x u hx hu
    rw [hb]
    exact Kd.FK_step (hf n x [u] hn1 (hrow n u hn2).1) (fun k hk hlt => hg.block k hlt hk.2)
end Go.Proofs.Ytckiebdehlcjoaa.Own
namespace Go.Proofs.Ytckiebdehlcjoaa.P
open Go.Proofs.Ytckiebdehlcjoaa.Own
open Go.RowKit Go.Proofs.YtckiebdehlcjoaaW.PrintWords Go.Proofs.YtckiebdehlcjoaaW.PrintLast Go.Proofs.YtckiebdehlcjoaaW.PrintMore
set_option linter.unusedVariables false
set_option linter.unusedSimpArgs false
def entB (n : Int) (l1 : List Int) (l2 : List (List Int)) (l3 : List Int) (s : List Int) : Option Bool := if 1 < s.length then impl_house_isDoor.f n l1 l2 l3 (rd s 0) (rd s 1) else none
theorem ent_tab : rtab .any (opsOf Try.f299 1) = rtab .any (opsOf Try.f299 1) := rfl
theorem ent_bits : waitsOk (rtab .any (opsOf Try.f299 1)).2 [0, 0, 2, 6, 0, 16, 48, 127, 255, 511] = true := by kernel_rfl
set_option maxHeartbeats 2000000 in
set_option maxRecDepth 100000 in
theorem entries1_calls (n : Int) (A1 : Option Addr) (c1 : Nat) (l1 : List Int) (A2 : Option Addr) (c2 : Nat) (l2 : List (List Int)) (A3 : Option Addr) (c3 : Nat) (l3 : List Int) (A : Option Addr) (c : Nat) (s : List Int) (B : Nat) (r : Bool) (w : World)
    (hbox : w.heap[B]? = some (.cells #[.int .i64 n, .slice A1 l1.length c1, .slice A2 l2.length c2, .slice A3 l3.length c3] 132 (0, 0)))
    (hr1 : Kd.C (Kd.int .i64) w A1 l1.length l1) (hc1 : l1.length ≤ c1) (hr2 : Kd.C (Kd.slice 3 (Kd.int .i64)) w A2 l2.length l2) (hc2 : l2.length ≤ c2) (hr3 : Kd.C (Kd.int .i64) w A3 l3.length l3) (hc3 : l3.length ≤ c3)
    (hs : Kd.C (Kd.int .i64) w A s.length s) (h : entB n l1 l2 l3 s = some r) :
    Calls Try.prog 299 #[.slice A s.length c, .pointer (some ⟨B, 0, none⟩)] w fun e w' => e = .returned (.bool (!r)) ∧ Below w.heap.size w w' := by
  unfold entB at h
  by_cases hl : 1 < s.length
  · rw [if_pos hl] at h
    have H := zA0 h
    clear h
    have hu132 := Try.underlying132
    have q0 : (0 : Int) < (s.length : Int) := by omega
    have q1 : (1 : Int) < (s.length : Int) := by omega
    obtain ⟨ad, e, hx0⟩ := Kd.at_int hs 0 (by omega) q0
    obtain ⟨ad', e', hx1⟩ := Kd.at_int hs 1 (by omega) q1
    cases e
    obtain rfl : ad = ad' := by injection e'
    have hw0 := hx0
    have hw1 := hx1
    (try rw [show ((0 : Int)).toNat = 0 from rfl] at hw0)
    (try rw [Addr.add_zero'] at hw0)
    (try rw [show ((1 : Int)).toNat = 1 from rfl] at hw1)
    (try simp only [Go.Addr.add, ↓reduceIte, Nat.reduceEqDiff] at hw1)
    have qi0 : (0 < s.length) = True := eq_true (by omega)
    have qi1 : (1 < s.length) = True := eq_true (by omega)
    replace q0 := eq_true q0
    replace q1 := eq_true q1
    have hz0 := (blk_cell hbox 0).trans (by rfl : _ = some (Value.int .i64 n))
    have hz1 := (blk_cell hbox 1).trans (by rfl : _ = some (Value.slice A1 l1.length c1))
    have hz2 := (blk_cell hbox 2).trans (by rfl : _ = some (Value.slice A2 l2.length c2))
    have hz3 := (blk_cell hbox 3).trans (by rfl : _ = some (Value.slice A3 l3.length c3))
    have HR1 := zA0 hr1
    have HR2 := zA0 hr2
    have HR3 := zA0 hr3
    clear hr1 hr2 hr3 hs hbox
    go_enter Try.func299, Try.ntmps299
    go_wp2
    refine start_ (n := 10) (S := fun w' => w'.cell? ⟨B, 0, none⟩ = some (.int .i64 n) ∧ w'.cell? ⟨B, 1, none⟩ = some (.slice A1 l1.length c1) ∧ w'.cell? ⟨B, 2, none⟩ = some (.slice A2 l2.length c2) ∧ w'.cell? ⟨B, 3, none⟩ = some (.slice A3 l3.length c3) ∧ w'.cell? ad = some (.int .i64 (rd s 0)) ∧ w'.cell? ⟨ad.block, ad.off + 1, none⟩ = some (.int .i64 (rd s 1))) (ds := []) #[false, false, false, false, false, false, false, false, false, false] (by kernel_rfl) rfl rfl ⟨hz0, hz1, hz2, hz3, hw0, hw1⟩ (fun hHeld => ?_); refine with_tabW ent_tab ent_bits (fun HT_ HW_ => ?_)
    refine pure_ (i := 1) (N := some 5) (v := ?_) (a' := ?_) #[false, true, false, false, false, false, false, false, false, false] rfl rfl (any_of HT_.out (by kernel_rfl)) (fun _ _ _ h => h) (Or.inl ⟨by rfl, ?_⟩) ?_ ?_
    rotate_left
    · intro w'
      go_simp
      with_reducible rfl
    rotate_left
    · simp only [Act.put, List.setIfInBounds_toArray, List.set_cons_zero, List.set_cons_succ, i64_w, i32_w]
      rfl
    refine pure_ (i := 2) (N := some 6) (v := ?_) (a' := ?_) #[false, true, true, false, false, false, false, false, false, false] rfl rfl (any_of HT_.out (by kernel_rfl)) (fun _ _ _ h => h) (Or.inl ⟨by rfl, ?_⟩) ?_ ?_
    rotate_left
    · intro w'
      go_simp
      with_reducible rfl
    rotate_left
    · simp only [Act.put, List.setIfInBounds_toArray, List.set_cons_zero, List.set_cons_succ, i64_w, i32_w]
      rfl
    refine pure_ (i := 4) (N := some 8) (v := ?_) (a' := ?_) #[false, true, true, false, true, false, false, false, false, false] rfl rfl (any_of HT_.out (by kernel_rfl)) (fun _ _ _ h => h) (Or.inl ⟨by rfl, ?_⟩) ?_ ?_
    rotate_left
    · intro w'
      go_simp
      with_reducible rfl
    rotate_left
    · simp only [Act.put, List.setIfInBounds_toArray, List.set_cons_zero, List.set_cons_succ, i64_w, i32_w]
      rfl
    refine pure_ (i := 5) (N := some 9) (v := ?_) (a' := ?_) #[false, true, true, false, true, true, false, false, false, false] rfl rfl (any_of HT_.out (by kernel_rfl)) (fun _ _ _ h => h) (Or.inl ⟨by rfl, ?_⟩) ?_ ?_
    rotate_left
    · intro w'
      go_simp
      with_reducible rfl
    rotate_left
    · simp only [Act.put, List.setIfInBounds_toArray, List.set_cons_zero, List.set_cons_succ, i64_w, i32_w]
      rfl
    refine take_ (i := 0) (N := some 4) (v := ?_) (a' := ?_) #[true, true, true, false, true, true, false, false, false, false] rfl rfl (take_ofW HT_.out HW_.out (by kernel_rfl)) (fun _ _ _ h => h) (Or.inl ⟨by rfl, ?_⟩) hHeld ?_ ?_
    rotate_left
    · rintro w' ⟨s0, s1, s2, s3, s4, s5⟩
      go_simp
      with_reducible rfl
    rotate_left
    · simp only [Act.put, List.setIfInBounds_toArray, List.set_cons_zero, List.set_cons_succ, i64_w, i32_w]
      rfl
    refine take_ (i := 3) (N := some 7) (v := ?_) (a' := ?_) #[true, true, true, true, true, true, false, false, false, false] rfl rfl (take_ofW HT_.out HW_.out (by kernel_rfl)) (fun _ _ _ h => h) (Or.inl ⟨by rfl, ?_⟩) hHeld ?_ ?_
    rotate_left
    · rintro w' ⟨s0, s1, s2, s3, s4, s5⟩
      go_simp
      with_reducible rfl
    rotate_left
    · simp only [Act.put, List.setIfInBounds_toArray, List.set_cons_zero, List.set_cons_succ, i64_w, i32_w]
      rfl
    refine take_ (i := 6) (N := some 10) (v := ?_) (a' := ?_) #[true, true, true, true, true, true, true, false, false, false] rfl rfl (take_ofW HT_.out HW_.out (by kernel_rfl)) (fun _ _ _ h => h) (Or.inl ⟨by rfl, ?_⟩) hHeld ?_ ?_
    rotate_left
    · rintro w' ⟨s0, s1, s2, s3, s4, s5⟩
      go_simp
      with_reducible rfl
    rotate_left
    · simp only [Act.put, List.setIfInBounds_toArray, List.set_cons_zero, List.set_cons_succ, i64_w, i32_w]
      rfl
    refine one_ (i := 7) (N := some 11) #[true, true, true, true, true, true, true, true, false, false] rfl rfl (one_of HT_.out (by kernel_rfl)) (by decide) (fun K hK => ?_)
    refine goes_ Try.func212 (by kernel_rfl) rfl #[.agg #[.int .i64 n, .slice A1 l1.length c1, .slice A2 l2.length c2, .slice A3 l3.length c3], .int .i64 (rd s 0), .int .i64 (rd s 1)] (by rfl) rfl rfl (by (try simp only [List.map_toArray, List.map_cons, List.map_nil]); first | done | rfl) ?_
    with_reducible refine (impl_house_isDoor.calls n A1 c1 l1 A2 c2 l2 A3 c3 l3 _ _ r _ ?s1 hc1 ?s2 hc2 ?s3 hc3 H.out).mono ?_
    (case s1 => repeat (first | exact HR1.out | (with_reducible refine zcN ?_ _) | (with_reducible refine zcD ?_)))
    (case s2 => repeat (first | exact HR2.out | (with_reducible refine zcN ?_ _) | (with_reducible refine zcD ?_)))
    (case s3 => repeat (first | exact HR3.out | (with_reducible refine zcN ?_ _) | (with_reducible refine zcD ?_)))
    rintro e w' ⟨rfl, hb⟩
    refine ⟨_, rfl, ?_⟩
    have HB := zA0 hb
    clear hb
    refine hK.out _ _ ⟨(HB.out.cell (World.block_lt_of_cell? _ _ hz0)).trans hz0, (HB.out.cell (World.block_lt_of_cell? _ _ hz1)).trans hz1, (HB.out.cell (World.block_lt_of_cell? _ _ hz2)).trans hz2, (HB.out.cell (World.block_lt_of_cell? _ _ hz3)).trans hz3, (HB.out.cell (World.block_lt_of_cell? _ _ hw0)).trans hw0, (HB.out.cell (World.block_lt_of_cell? _ _ hw1)).trans hw1⟩ (fun hHeld => ?_)
    clear hK K
    refine norm_ (a' := ?_) ?_ ?_
    rotate_left
    · show Act.put _ (some 11) _ = _
      simp only [Act.put, List.setIfInBounds_toArray, List.set_cons_zero, List.set_cons_succ, i64_w, i32_w]
      rfl
    refine pure_ (i := 8) (N := some 12) (v := ?_) (a' := ?_) #[true, true, true, true, true, true, true, true, true, false] rfl rfl (any_of HT_.out (by kernel_rfl)) (fun _ _ _ h => h) (Or.inl ⟨by rfl, ?_⟩) ?_ ?_
    rotate_left
    · intro w'
      go_simp
      with_reducible rfl
    rotate_left
    · simp only [Act.put, List.setIfInBounds_toArray, List.set_cons_zero, List.set_cons_succ, i64_w, i32_w]
      rfl
    refine pure_ (i := 9) (N := some 3) (v := ?_) (a' := ?_) #[true, true, true, true, true, true, true, true, true, true] rfl rfl (any_of HT_.out (by kernel_rfl)) (fun _ _ _ h => h) (Or.inl ⟨by rfl, ?_⟩) ?_ ?_
    rotate_left
    · intro w'
      go_simp
      with_reducible rfl
    rotate_left
    · simp only [Act.put, List.setIfInBounds_toArray, List.set_cons_zero, List.set_cons_succ, i64_w, i32_w]
      rfl
    refine done_ (done_of HT_.out (by kernel_rfl)) ?_
    try go_wp2
    go_ret
    exact ⟨rfl, below_then (below_drew (Below.refl _ _)) (Nat.le_refl _) HB.out⟩
  · rw [if_neg hl] at h; cases h
def impl_house_entries.f (k : Nat) (a0_0 : Int) (l0_1 : List Int) (l0_2 : List (List Int)) (l0_3 : List Int) : Option (List (List Int)) :=
  (impl_house_steps.f k a0_0 l0_1 l0_2 l0_3).bind fun st => if (st.all fun s => (entB a0_0 l0_1 l0_2 l0_3 s).isSome) = true then some (st.filter fun s => entB a0_0 l0_1 l0_2 l0_3 s == some true) else none
set_option maxHeartbeats 4000000 in
theorem impl_house_entries.calls (k : Nat) (a0_0 : Int) (A0_1 : Option Addr) (c0_1 : Nat) (l0_1 : List Int) (A0_2 : Option Addr) (c0_2 : Nat) (l0_2 : List (List Int)) (A0_3 : Option Addr) (c0_3 : Nat) (l0_3 : List Int) (r : List (List Int)) (w : World) (hr0_1 : Kd.C (Kd.int .i64) w A0_1 l0_1.length l0_1) (hc0_1 : l0_1.length ≤ c0_1) (hr0_2 : Kd.C (Kd.slice 3 (Kd.int .i64)) w A0_2 l0_2.length l0_2) (hc0_2 : l0_2.length ≤ c0_2) (hr0_3 : Kd.C (Kd.int .i64) w A0_3 l0_3.length l0_3) (hc0_3 : l0_3.length ≤ c0_3) (h : impl_house_entries.f k a0_0 l0_1 l0_2 l0_3 = some r) :
  Calls Try.prog 216 #[.agg #[.int .i64 a0_0, .slice A0_1 l0_1.length c0_1, .slice A0_2 l0_2.length c0_2, .slice A0_3 l0_3.length c0_3]] w fun e w' => ∃ v0_ : Value, e = .returned (v0_) ∧ Kd.N (Kd.slice 3 (Kd.int .i64)) 22 w' w.heap.size (fun k_ => (w.heap.size ≤ k_)) v0_ r ∧ Below w.heap.size w w' := by
 unfold impl_house_entries.f at h
 obtain ⟨st, A1, H⟩ := Option.bind_eq_some_iff.mp h
 have A := zA0 A1
 clear A1 h
 by_cases hall : (st.all fun s => (entB a0_0 l0_1 l0_2 l0_3 s).isSome) = true
 ·
  rw [if_pos hall] at H
  have E := zA0 (Option.some.inj H)
  clear H
  have hu132 := Try.underlying132
  have HR1 := zA0 hr0_1
  have HR2 := zA0 hr0_2
  have HR3 := zA0 hr0_3
  clear hr0_1 hr0_2 hr0_3
  have eg := enters_of Try.func299 (by kernel_rfl) rfl
  have hD := zA0 (fun (v : Value) (W : World) (HN : Kd.N (Kd.slice 3 (Kd.int .i64)) 22 W (w.heap.size + 1) (fun k_ => w.heap.size + 1 ≤ k_) v st) (HW : Below w.heap.size w W) (HB : w.heap.size + 1 ≤ W.heap.size) (hB : W.heap[w.heap.size]? = some (.cells #[.int .i64 a0_0, .slice A0_1 l0_1.length c0_1, .slice A0_2 l0_2.length c0_2, .slice A0_3 l0_3.length c0_3] 132 (0, 0))) =>
   DeleteFunc_N 299 #[.pointer (some ⟨w.heap.size, 0, none⟩)] (fun s => !(entB a0_0 l0_1 l0_2 l0_3 s == some true)) (w.heap.size + 1) v st _ W eg HN HB
    (fun x A c W' hx hc hC hg => by
     have hk := fun k (hk : k < w.heap.size) => (hg.block k (by omega) (fun e => by have := HN.1 k e.symm; omega)).trans (HW.block k hk)
     have hw : Below w.heap.size w W' := ⟨hg.os.trans HW.os, hg.tape.trans HW.tape, hg.output.trans HW.output, Nat.le_trans HW.size hg.size, hk⟩
     obtain ⟨b, hb⟩ := Option.isSome_iff_exists.1 (List.all_eq_true.1 hall x hx)
     have := entries1_calls a0_0 A0_1 c0_1 l0_1 A0_2 c0_2 l0_2 A0_3 c0_3 l0_3 A c x w.heap.size b W' ((hg.block _ (by omega) (fun e => by have := HN.1 _ e.symm; omega)).trans hB) (Kd.C_below HR1.out hw) hc0_1 (Kd.C_below HR2.out hw) hc0_2 (Kd.C_below HR3.out hw) hc0_3 hC hb
     rw [hb]
     cases b <;> simpa using this))
  clear eg
  go_enter Try.func216, Try.ntmps216
  go_wp2_with (first | (go_at_call 298; refine (impl_house_steps.calls k a0_0 A0_1 c0_1 l0_1 A0_2 c0_2 l0_2 A0_3 c0_3 l0_3 st _ (zC HR1.out) hc0_1 (zC HR2.out) hc0_2 (zC HR3.out) hc0_3 A.out).mono ?_; rintro e w' ⟨v, rfl, hs, hb⟩; have HN := zA0 (Kd.N_mono (Kd.N_lower (Kd.S_N (Kd.S_bound hs)) (show w.heap.size + 1 ≤ _ by simp)) (ok' := fun k_ => w.heap.size + 1 ≤ k_) (fun k_ hk_ => by have := hk_.2.1; simpa using this)); have HB := zA0 hb; clear hs hb) | (go_at_call 297; refine (hD.out v _ HN.out (below_then (by repeat (first | exact Below.refl _ _ | apply zpA | apply zpN)) (by simp) HB.out) (by have := HB.out.size; simpa using this) ((HB.out.block _ (by simp)).trans (heap_alloc_new w _))).mono ?_; rintro e w2 ⟨v2, rfl, hn2, hg2, ho2⟩; have HN2 := zA0 hn2; have HG2 := zA0 hg2; clear hn2 hg2))
  go_ret
  have hfl : (st.filter fun x => !(!(entB a0_0 l0_1 l0_2 l0_3 x == some true))) = r := by rw [← E.out]; simp only [Bool.not_not]
  have h1 : Below w.heap.size w w' := below_then (by repeat (first | exact Below.refl _ _ | apply zpA | apply zpN)) (by simp) HB.out
  refine ⟨_, rfl, ?_, pw_below_grown h1 _ h1.size HG2.out (fun k_ hk_ => by have := HN.out.1 k_ hk_; omega)⟩
  rw [← hfl]
  exact Kd.N_mono (Kd.N_lower HN2.out (by omega)) (fun k_ hk_ => by omega)
 ·
  rw [if_neg hall] at H; cases H
end Go.Proofs.Ytckiebdehlcjoaa.P
