/- A part of the proof of the law FnDoorsOfRooms. -/
import Derived.Test.YtckiebdehlcjoaaTFnDoorsOfRooms20
import Derived.Test.YtckiebdehlcjoaaTFnDoorsOfRooms6
namespace Go.Proofs.Ytckiebdehlcjoaa.Pure
open Go.RowKit Go.Proofs.Ytckiebdehlcjoaa.P Go.Proofs.YtckiebdehlcjoaaW.PrintWords Go.Proofs.YtckiebdehlcjoaaW.PrintLast
set_option linter.unusedVariables false
theorem next_ok {s : List Int} (hs : Bytes s) (hl : s.length ≤ 1048576) (p h : Int) (h0 : 0 ≤ p) (h1 : p ≤ 1099511627776) :
    ∃ v h', spec_l1Cur_next.f s p h = some (v, p + 1, h') ∧ 0 ≤ v ∧ v ≤ 255 := by
  unfold spec_l1Cur_next.f
  have hw : wrap64 (p + 1) = p + 1 := wrap64_id (by omega) (by omega)
  have hr := hs.rd p
  have hw2 : wrap64 (rd s p) = rd s p := wrap64_id (by omega) (by omega)
  rw [hw, hw2]
  by_cases c1 : p < (s.length : Int)
  · rw [if_pos c1, if_pos h0, if_pos (by omega)]
    exact ⟨_, _, rfl, hr.1, hr.2⟩
  · rw [if_neg c1, if_neg (by omega)]
    refine ⟨_, _, rfl, ?_⟩
    have := and255_range (IntKind.u64.wrap (IntKind.u64.wrap (h * 6364136223846793005)) + 1442695040888963407)
    rw [wrap64_id (by omega) (by omega)]
    exact this
theorem pick_ok {s : List Int} (hs : Bytes s) (hl : s.length ≤ 1048576) (p h n : Int) (h0 : 0 ≤ p) (h1 : p ≤ 1000000000000) (hn : n ≤ 1000000000) :
    ∃ v p' h', spec_l1Cur_pick.f s p h n = some (v, p', h') ∧ 0 ≤ v ∧ (v < n ∨ v = 0) ∧ p ≤ p' ∧ p' ≤ p + 2 := by
  unfold spec_l1Cur_pick.f
  by_cases c : n ≤ 1
  · rw [if_pos c]
    exact ⟨_, _, _, rfl, by omega, .inr rfl, by omega, by omega⟩
  · rw [if_neg c]
    obtain ⟨v, h', e, hv0, hv1⟩ := next_ok hs hl p h h0 (by omega)
    rw [e, Option.bind_some]
    show ∃ v_ p' h'_, (if n > 200 then (spec_l1Cur_next.f s (p + 1) h').bind _ else _) = some (v_, p', h'_) ∧ _
    by_cases c2 : n > 200
    · rw [if_pos c2]
      obtain ⟨v2, h2, e2, hv2, hv3⟩ := next_ok hs hl (p + 1) h' (by omega) (by omega)
      rw [e2, Option.bind_some, if_neg (by omega)]
      have hw : wrap64 (wrap64 (v * 256) + v2) = v * 256 + v2 := by rw [wrap64_id (n := v * 256) (by omega) (by omega), wrap64_id (by omega) (by omega)]
      refine ⟨_, _, _, rfl, ?_, .inl ?_, by show p ≤ p + 1 + 1; omega, by show p + 1 + 1 ≤ p + 2; omega⟩
      · show 0 ≤ Int.tmod (wrap64 (wrap64 (v * 256) + v2)) n
        rw [hw]; exact Int.tmod_nonneg _ (by omega)
      · show Int.tmod (wrap64 (wrap64 (v * 256) + v2)) n < n
        rw [hw, Int.tmod_eq_emod_of_nonneg (by omega)]
        exact Int.emod_lt_of_pos _ (by omega)
    · rw [if_neg c2, if_neg (by omega)]
      refine ⟨_, _, _, rfl, Int.tmod_nonneg _ hv0, .inl ?_, by show p ≤ p + 1; omega, by show p + 1 ≤ p + 2; omega⟩
      show Int.tmod v n < n
      rw [Int.tmod_eq_emod_of_nonneg hv0]
      exact Int.emod_lt_of_pos _ (by omega)
theorem one_ok {s : List Int} (hs : Bytes s) (hl : s.length ≤ 1048576) (p h n : Int) (h0 : 0 ≤ p) (h1 : p ≤ 1000000000000) (hn : n ≤ 1000000000) :
    ∃ b p' h', spec_l1Cur_one.f s p h n = some (b, p', h') ∧ p ≤ p' ∧ p' ≤ p + 2 := by
  unfold spec_l1Cur_one.f
  obtain ⟨v, p', h', e, _, _, hp0, hp1⟩ := pick_ok hs hl p h n h0 h1 hn
  rw [e]
  exact ⟨_, _, _, rfl, hp0, hp1⟩
theorem rd_mem_of {l : List Int} {i : Int} (h0 : 0 ≤ i) (h1 : i < l.length) : rd l i ∈ l := by
  unfold rd
  have h : i.toNat < l.length := by omega
  rw [List.getD_eq_getElem?_getD, List.getElem?_eq_getElem h]
  exact List.getElem_mem _
theorem among_ok {s : List Int} (hs : Bytes s) (hl : s.length ≤ 1048576) (p h : Int) (l : List Int) (h0 : 0 ≤ p) (h1 : p ≤ 1000000000000) (hn : 0 < l.length) (hn2 : l.length ≤ 1000000) :
    ∃ v p' h', spec_l1Cur_among.f s p h l = some (v, p', h') ∧ v ∈ l ∧ p ≤ p' ∧ p' ≤ p + 2 := by
  unfold spec_l1Cur_among.f
  obtain ⟨v, p', h', e, hv0, hv1, hp0, hp1⟩ := pick_ok hs hl p h l.length h0 h1 (by omega)
  rw [e, Option.bind_some]
  have hv : v < l.length := by omega
  show ∃ v_ p'_ h'_, (if 0 ≤ v then (if v < (l.length : Int) then some (rd l v, p', h') else none) else none) = some (v_, p'_, h'_) ∧ _
  rw [if_pos hv0, if_pos hv]
  exact ⟨_, _, _, rfl, rd_mem_of hv0 hv, hp0, hp1⟩
theorem side_ok {s : List Int} (hs : Bytes s) (hl : s.length ≤ 1048576) (p h a : Int) (h0 : 0 ≤ p) (h1 : p ≤ 900000000000) (ha0 : 1 ≤ a) (ha : a ≤ 100) :
    ∃ v p' h', spec_l1Cur_side.f s p h a = some (v, p', h') ∧ (v ∈ [(-1 : Int), 0, 8, 9] ∨ (1 ≤ v ∧ v ≤ a)) ∧ p ≤ p' ∧ p' ≤ p + 4 := by
  unfold spec_l1Cur_side.f
  obtain ⟨b, p', h', e, hp0, hp1⟩ := one_ok hs hl p h 12 h0 (by omega) (by omega)
  rw [e, Option.bind_some]
  show ∃ v p'_ h'_, (if b = true then (spec_l1Cur_among.f s p' h' [-1, 0, 8, 9]).bind _ else (spec_l1Cur_pick.f s p' h' a).bind _) = some (v, p'_, h'_) ∧ _
  cases b with
  | true =>
    rw [if_pos rfl]
    obtain ⟨v, p2, h2, e2, hv, hq0, hq1⟩ := among_ok hs hl p' h' [-1, 0, 8, 9] (by omega) (by omega) (by decide) (by decide)
    rw [e2, Option.bind_some]
    exact ⟨_, _, _, rfl, .inl hv, by show p ≤ p2; omega, by show p2 ≤ p + 4; omega⟩
  | false =>
    rw [if_neg (by decide)]
    obtain ⟨v, p2, h2, e2, hv0, hv1, hq0, hq1⟩ := pick_ok hs hl p' h' a (by omega) (by omega) (by omega)
    rw [e2, Option.bind_some]
    have hw : wrap64 (1 + v) = 1 + v := wrap64_id (by omega) (by omega)
    refine ⟨_, _, _, rfl, .inr ?_, by show p ≤ p2; omega, by show p2 ≤ p + 4; omega⟩
    show 1 ≤ wrap64 (1 + v) ∧ wrap64 (1 + v) ≤ a
    rw [hw]; omega
end Go.Proofs.Ytckiebdehlcjoaa.Pure
