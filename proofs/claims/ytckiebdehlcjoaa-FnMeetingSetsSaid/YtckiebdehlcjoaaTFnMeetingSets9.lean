/- A part of the proof of the law FnMeetingSets. -/
import Derived.Test.YtckiebdehlcjoaaTFnMeetingSets8
import Derived.Test.YtckiebdehlcjoaaTFnMeetingSets6
import Derived.Laws.Bits64b
namespace Go.Proofs.Ytckiebdehlcjoaa.Pure
open Go.RowKit Go.Proofs.Ytckiebdehlcjoaa.P Go.Proofs.Ytckiebdehlcjoaa.Own Go.Proofs.YtckiebdehlcjoaaW.PrintWords Go.Proofs.YtckiebdehlcjoaaW.PrintLast
set_option linter.unusedVariables false
theorem bits_and_i64_nat (a b : Nat) (ha : a < 9223372036854775808) (hb : b < 9223372036854775808) : bits .and .i64 (a : Int) (b : Int) = ((a &&& b : Nat) : Int) := by
  have hx : a &&& b < 2 ^ 63 := Nat.and_lt_two_pow _ (by omega)
  have h1 : (BitVec.ofInt 64 (a : Int)).toNat = a := by
    rw [BitVec.ofInt_natCast, BitVec.toNat_ofNat]; exact Nat.mod_eq_of_lt (by omega)
  have h2 : (BitVec.ofInt 64 (b : Int)).toNat = b := by
    rw [BitVec.ofInt_natCast, BitVec.toNat_ofNat]; exact Nat.mod_eq_of_lt (by omega)
  show IntKind.i64.wrap ((BitVec.ofInt 64 (a : Int) &&& BitVec.ofInt 64 (b : Int)).toNat : Int) = _
  rw [BitVec.toNat_and, h1, h2]
  rw [i64_w]
  exact wrap64_id (by omega) (by omega)
theorem sets_ok {s : List Int} (hs : Bytes s) (hl : s.length ≤ 1048576) (p h a : Int) (h0 : 0 ≤ p) (h1 : p ≤ 900000000000) (ha0 : 1 ≤ a) (ha : a ≤ 8) :
    ∃ n k p' h', spec_l1Cur_sets.f s p h a = some (n, k, p', h') ∧ 0 ≤ n ∧ n ≤ 9 ∧ -1 ≤ k ∧ k ≤ 9 ∧ p ≤ p' ∧ p' ≤ p + 8 := by
  unfold spec_l1Cur_sets.f
  obtain ⟨v, p1, h1', e1, v0, v1, q0, q1⟩ := pick_ok hs hl p h a h0 (by omega) (by omega)
  have w1 : wrap64 (1 + v) = 1 + v := wrap64_id (by omega) (by omega)
  have w2 : wrap64 (1 + v + 1) = v + 2 := by rw [wrap64_id (by omega) (by omega)]; omega
  have w3 : wrap64 (Int.tdiv (v + 2) 2) = (v + 2) / 2 := by rw [Int.tdiv_eq_ediv_of_nonneg (by omega)]; exact wrap64_id (by omega) (by omega)
  obtain ⟨u, p2, h2, e2, u0, u1, r0, r1⟩ := pick_ok hs hl p1 h1' ((v + 2) / 2) (by omega) (by omega) (by omega)
  have w4 : wrap64 (1 + u) = 1 + u := wrap64_id (by omega) (by omega)
  obtain ⟨c, p3, h3, e3, c0, c1, s0, s1⟩ := pick_ok hs hl p2 h2 12 (by omega) (by omega) (by omega)
  simp only [e1, Option.bind_some, w1, w2, w3, e2, e3, w4]
  by_cases k0 : c = 0
  · rw [if_pos k0]
    obtain ⟨d, p4, h4, e4, hd, t0, t1⟩ := among_ok hs hl p3 h3 [0, 8, 9] (by omega) (by omega) (by decide) (by decide)
    simp only [e4, Option.bind_some]
    simp at hd
    exact ⟨_, _, _, _, rfl, by omega, by omega, by omega, by omega, by omega, by omega⟩
  · rw [if_neg k0]
    by_cases k1 : c = 1
    · rw [if_pos k1]
      obtain ⟨d, p4, h4, e4, hd, t0, t1⟩ := among_ok hs hl p3 h3 [-1, 0, 1 + v, v + 2] (by omega) (by omega) (by simp) (by simp)
      simp only [e4, Option.bind_some]
      simp at hd
      exact ⟨_, _, _, _, rfl, by omega, by omega, by omega, by omega, by omega, by omega⟩
    · rw [if_neg k1]
      exact ⟨_, _, _, _, rfl, by omega, by omega, by omega, by omega, by omega, by omega⟩
abbrev K : Nat := 100000
theorem big_cases (l0 l1 : List Int) : laws_big.f l0 l1 = some true ∨ (laws_big.f l0 l1 = some false ∧ l0.length ≤ 1048576 ∧ l1.length ≤ 1048576) := by
  unfold laws_big.f
  by_cases h : (l0.length : Int) > 1048576
  · rw [if_pos h]; exact .inl rfl
  · rw [if_neg h, wrap64_id (by omega) (by omega)]
    by_cases h2 : (l1.length : Int) > 1048576 - (l0.length : Int)
    · left; simp [h2]
    · right; exact ⟨by simp [h2], by omega, by omega⟩
theorem all_range {P : Int → Bool} {lo : Int} {n : Nat} (h : (List.range n).all (fun j => P (lo + j)) = true) (i : Int) (h0 : lo ≤ i) (h1 : i < lo + n) : P i = true := by
  have := List.all_eq_true.1 h (i - lo).toNat (List.mem_range.2 (by omega))
  rwa [show lo + ((i - lo).toNat : Int) = i by omega] at this
def pairsOk (l : List Int) : Bool := (List.range l.length).all fun i => (l.take i).all fun b => impl_AreApart.f (rd l i) b == some (false, true)
def ck (n k : Int) : Option Unit :=
  (impl_MeetingSets.f K n k).bind fun b1 => (spec_MeetingSets.f K n k).bind fun b2 => (impl_MostMeeting.f K n k).bind fun b3 => (spec_MostMeeting.f K n k).bind fun b4 => if (b1.2 != b2.2) = true then none else ((laws_uSame.f K b1.1 b2.1).bind fun t => if t = true then (if (b3.2 != b4.2) = true then none else (if b3.1 = b4.1 then (if (b3.2 != b1.2) = true then none else (if b2.2 = true then (if (b1.1.length : Int) = b3.1 then (if pairsOk b1.1 = true then (if b1.1.length ≤ 1000 then some () else none) else none) else none) else some ())) else none)) else none)
theorem ck_all : ∀ n : Int, 0 ≤ n → n ≤ 9 → ∀ k : Int, -1 ≤ k → k ≤ 9 → ck n k = some () := by
  intro n n0 n1 k k0 k1
  have hA : (List.range 10).all (fun i => (List.range 11).all (fun j => ck (0 + (i : Int)) (-1 + (j : Int)) == some ())) = true := by decide +kernel
  have h1 := all_range (P := fun n => (List.range 11).all (fun j => ck n (-1 + (j : Int)) == some ())) (lo := 0) (n := 10) hA n n0 (by omega)
  have := all_range (P := fun k => ck n k == some ()) (lo := -1) (n := 11) h1 k k0 (by omega)
  simpa using this
def setsV (m j : Int) : List Int := (Kn.sets m.toNat j.toNat).map Int.ofNat
def given (m j : Int) : Bool := decide (1 ≤ m) && decide (m ≤ 8) && decide (1 ≤ j) && decide (j ≤ m)
def tab (m j : Int) : Bool :=
  impl_areItems.f m j == some (given m j) && spec_knGiven.f m j == some (given m j) &&
  (if given m j = true then
    impl_setsOf.f K m j == some (setsV m j) && (setsV m j).all (fun x => decide (0 ≤ x) && decide (x < 256)) && decide ((setsV m j).length ≤ 70) && decide (1 ≤ (setsV m j).length) &&
    (match impl_MostMeeting.f K m j with
      | some (g, true) => decide (g = if 2 * j ≤ m then ((Kn.cho (m - 1).toNat (j - 1).toNat : Nat) : Int) else ((setsV m j).length : Int))
      | _ => false) &&
    (match spec_ColoursOf.f K m j with
      | some (c, true) => decide (c.length = (setsV m j).length)
      | _ => false)
  else impl_MostMeeting.f K m j == some (0, false))
theorem tab_all : ∀ m : Int, 0 ≤ m → m ≤ 9 → ∀ j : Int, -1 ≤ j → j ≤ 9 → tab m j = true := by
  intro m m0 m1 j j0 j1
  have hA : (List.range 10).all (fun i => (List.range 11).all (fun j => tab (0 + (i : Int)) (-1 + (j : Int)))) = true := by decide +kernel
  have h1 := all_range (P := fun m => (List.range 11).all (fun j => tab m (-1 + (j : Int)))) (lo := 0) (n := 10) hA m m0 (by omega)
  exact all_range (P := fun j => tab m j) (lo := -1) (n := 11) h1 j j0 (by omega)
structure Tab (m j : Int) : Prop where
  range : 1 ≤ m ∧ m ≤ 8 ∧ 1 ≤ j ∧ j ≤ m
  items : impl_areItems.f m j = some true
  given_ : spec_knGiven.f m j = some true
  sets : impl_setsOf.f K m j = some (setsV m j)
  small : ∀ x ∈ setsV m j, 0 ≤ x ∧ x < 256
  len : 1 ≤ (setsV m j).length ∧ (setsV m j).length ≤ 70
  most : impl_MostMeeting.f K m j = some (if 2 * j ≤ m then ((Kn.cho (m - 1).toNat (j - 1).toNat : Nat) : Int) else ((setsV m j).length : Int), true)
  colours : ∃ c, spec_ColoursOf.f K m j = some (c, true) ∧ c.length = (setsV m j).length
theorem tab_of {m j : Int} (m0 : 0 ≤ m) (m1 : m ≤ 9) (j0 : -1 ≤ j) (j1 : j ≤ 9) : Tab m j ∨ (impl_areItems.f m j = some false ∧ spec_knGiven.f m j = some false ∧ impl_MostMeeting.f K m j = some (0, false)) := by
  have h := tab_all m m0 m1 j j0 j1
  unfold tab at h
  simp only [Bool.and_eq_true, beq_iff_eq] at h
  obtain ⟨⟨h1, h2⟩, h3⟩ := h
  cases hg : given m j with
  | false =>
    rw [hg] at h1 h2 h3
    rw [if_neg (by decide)] at h3
    exact .inr ⟨h1, h2, by simpa using h3⟩
  | true =>
    rw [hg] at h1 h2 h3
    rw [if_pos rfl] at h3
    simp only [Bool.and_eq_true, beq_iff_eq, decide_eq_true_eq, List.all_eq_true] at h3
    obtain ⟨⟨⟨⟨⟨a1, a2⟩, a3⟩, a4⟩, a5⟩, a6⟩ := h3
    refine .inl ⟨by unfold given at hg; simp at hg; omega, h1, h2, a1, a2, ⟨a4, a3⟩, ?_, ?_⟩
    · revert a5
      split
      · intro a5
        rename_i g heq
        rw [heq, of_decide_eq_true a5]
      · intro a5; cases a5
    · revert a6
      split
      · intro a6
        rename_i c heq
        exact ⟨c, heq, of_decide_eq_true a6⟩
      · intro a6; cases a6
/-- the first two sets that are apart and have equal colours: found, or there are none -/
theorem firstApart_ev (s l : List Int) (hl : l.length = s.length) (hb : s.length ≤ 1000) : ∃ r, Ev (fun k => impl_firstApart.f k s l) r ∧ (r = [] → ∀ i j : Nat, i < j → j < s.length → ¬ (Go.bits .and .i64 (rd s i) (rd s j) = 0 ∧ rd l i = rd l j)) := by
  have inner : ∀ (i : Nat), i < s.length → (∃ r, Ev (fun k => impl_firstApart.l0 k s l s (s.length : Int) ((i + 1 : Nat) : Int)) r ∧ (r = [] → ∀ i' j : Nat, i + 1 ≤ i' → i' < j → j < s.length → ¬ (Go.bits .and .i64 (rd s i') (rd s j) = 0 ∧ rd l i' = rd l j))) →
      ∀ (m : Nat) (j0 : Nat), j0 + m = s.length → ∃ r, Ev (fun k => impl_firstApart.l1 k s l i (rd s i) (j0 : Int) s (s.length : Int) i) r ∧ (r = [] → (∀ j : Nat, j0 ≤ j → j < s.length → ¬ (Go.bits .and .i64 (rd s i) (rd s j) = 0 ∧ rd l i = rd l j)) ∧ (∀ i' j : Nat, i + 1 ≤ i' → i' < j → j < s.length → ¬ (Go.bits .and .i64 (rd s i') (rd s j) = 0 ∧ rd l i' = rd l j))) := by
    intro i hi hn m
    induction m with
    | zero =>
      intro j0 hj
      obtain ⟨r, hE, hr⟩ := hn
      refine ⟨r, Ev.succ ?_, fun e => ⟨fun j h1 h2 => by omega, hr e⟩⟩
      simp only [impl_firstApart.l1]
      refine Ev.neg (by omega) ?_
      rw [wrap64_id (by omega) (by omega)]
      exact hE
    | succ m ih =>
      intro j0 hj
      obtain ⟨r, hE, hr⟩ := ih (j0 + 1) (by omega)
      have hw : wrap64 ((j0 : Int) + 1) = ((j0 + 1 : Nat) : Int) := by rw [wrap64_id (by omega) (by omega)]; omega
      by_cases h1 : Go.bits .and .i64 (rd s i) (rd s j0) = 0
      · by_cases h2 : rd l i = rd l j0
        · refine ⟨[rd s i, rd s j0], Ev.succ ?_, fun e => by cases e⟩
          simp only [impl_firstApart.l1]
          exact Ev.pos (by omega) (Ev.pos (by omega) (Ev.pos h1 (Ev.pos (by omega) (Ev.pos (by omega) (Ev.pos (by omega) (Ev.pos h2 (Ev.pure rfl)))))))
        · refine ⟨r, Ev.succ ?_, fun e => ⟨fun j k1 k2 => ?_, (hr e).2⟩⟩
          · simp only [impl_firstApart.l1]
            rw [hw]
            exact Ev.pos (by omega) (Ev.pos (by omega) (Ev.pos h1 (Ev.pos (by omega) (Ev.pos (by omega) (Ev.pos (by omega) (Ev.neg h2 hE))))))
          · by_cases hjj : j = j0
            · subst hjj; exact fun h => h2 h.2
            · exact (hr e).1 j (by omega) k2
      · refine ⟨r, Ev.succ ?_, fun e => ⟨fun j k1 k2 => ?_, (hr e).2⟩⟩
        · simp only [impl_firstApart.l1]
          rw [hw]
          exact Ev.pos (by omega) (Ev.pos (by omega) (Ev.neg h1 hE))
        · by_cases hjj : j = j0
          · subst hjj; exact fun h => h1 h.1
          · exact (hr e).1 j (by omega) k2
  have outer : ∀ (m i : Nat), i + m = s.length → ∃ r, Ev (fun k => impl_firstApart.l0 k s l s (s.length : Int) (i : Int)) r ∧ (r = [] → ∀ i' j : Nat, i ≤ i' → i' < j → j < s.length → ¬ (Go.bits .and .i64 (rd s i') (rd s j) = 0 ∧ rd l i' = rd l j)) := by
    intro m
    induction m with
    | zero =>
      intro i hi
      refine ⟨[], Ev.succ ?_, fun _ i' j h1 h2 h3 => by omega⟩
      simp only [impl_firstApart.l0]
      exact Ev.neg (by omega) (Ev.pure rfl)
    | succ m ih =>
      intro i hi
      obtain ⟨r, hE, hr⟩ := inner i (by omega) (ih (i + 1) (by omega)) (s.length - (i + 1)) (i + 1) (by omega)
      refine ⟨r, Ev.succ ?_, fun e i' j h1 h2 h3 => ?_⟩
      · simp only [impl_firstApart.l0]
        have hw : wrap64 ((i : Int) + 1) = ((i + 1 : Nat) : Int) := by rw [wrap64_id (by omega) (by omega)]; omega
        rw [hw]
        exact Ev.pos (by omega) (Ev.pos (by omega) (Ev.pos (by omega) hE))
      · by_cases hii : i' = i
        · subst hii; exact (hr e).1 j (by omega) h3
        · exact (hr e).2 i' j (by omega) h2 h3
  obtain ⟨r, hE, hr⟩ := outer s.length 0 (by omega)
  exact ⟨r, hE, fun e i j h1 h2 => hr e i j (Nat.zero_le _) h1 h2⟩
theorem rd_getD (l : List Int) (i : Nat) : rd l (i : Int) = l.getD i 0 := by unfold rd; rw [Int.toNat_natCast]
theorem list_range {α : Type} (l : List α) (d : α) : l = (List.range l.length).map fun i => l.getD i d := by
  apply List.ext_getElem
  · simp
  · intro i h1 h2
    simp [List.getElem?_eq_getElem h1]
theorem bits_zero : ∀ n, Kn.bits n 0 = 0
  | 0 => rfl
  | n + 1 => by unfold Kn.bits; simp [bits_zero n]
theorem count_le {m j : Int} (T : Tab m j) (l : List Int) (hl : l.length = (setsV m j).length)
    (hno : ∀ i i' : Nat, i < i' → i' < (setsV m j).length → ¬ (Go.bits .and .i64 (rd (setsV m j) i) (rd (setsV m j) i') = 0 ∧ rd l i = rd l i')) (x : Int) :
    (l.count x : Int) ≤ if 2 * j ≤ m then ((Kn.cho (m - 1).toNat (j - 1).toNat : Nat) : Int) else ((setsV m j).length : Int) := by
  obtain ⟨r1, r2, r3, r4⟩ := T.range
  split
  · rename_i h2
    have hnd : (Kn.sets m.toNat j.toNat).Nodup := List.nodup_range.filter _
    have hlen : (setsV m j).length = (Kn.sets m.toNat j.toNat).length := by simp [setsV]
    generalize hS : Kn.sets m.toNat j.toNat = S at *
    have hsm : ∀ i (h : i < S.length), (S[i] : Nat) < 256 ∧ rd (setsV m j) (i : Int) = (S[i] : Int) := by
      intro i h
      have e : rd (setsV m j) (i : Int) = (S[i] : Int) := by
        rw [rd_getD]; unfold setsV; rw [hS]
        simp [List.getD_eq_getElem?_getD, List.getElem?_eq_getElem h]
      have hm : rd (setsV m j) (i : Int) ∈ setsV m j := rd_mem_of (by omega) (by omega)
      have := T.small _ hm
      rw [e] at this
      exact ⟨by omega, e⟩
    let f : Nat → Bool := fun a => (List.range S.length).any fun i => S.getD i 0 == a && l.getD i 0 == x
    have hf : ∀ i (h : i < S.length), f S[i] = (l.getD i 0 == x) := by
      intro i h
      rw [Bool.eq_iff_iff]
      simp only [f, List.any_eq_true, List.mem_range, Bool.and_eq_true, beq_iff_eq]
      constructor
      · rintro ⟨i', h', e1, e2⟩
        have : S[i'] = S[i] := by rw [← e1]; simp [List.getD_eq_getElem?_getD, List.getElem?_eq_getElem h']
        have := (List.getElem_inj hnd).1 this
        subst this
        exact e2
      · intro e
        exact ⟨i, h, by simp [List.getD_eq_getElem?_getD, List.getElem?_eq_getElem h], e⟩
    have hc : S.countP f = l.count x := by
      have e1 : S.countP f = (List.range S.length).countP fun i => f (S.getD i 0) := by
        conv => lhs; rw [list_range S 0]
        rw [List.countP_map]; rfl
      have e2 : l.count x = (List.range l.length).countP fun i => l.getD i 0 == x := by
        unfold List.count
        conv => lhs; rw [list_range l 0]
        rw [List.countP_map]; rfl
      rw [e1, e2, hl, hlen]
      apply List.countP_congr
      intro i hi
      have hi := List.mem_range.1 hi
      have := hf i hi
      rw [show S.getD i 0 = S[i] by simp [List.getD_eq_getElem?_getD, List.getElem?_eq_getElem hi], this]
    have he := Kn.ekr (n := m.toNat) (k := j.toNat) (by omega) (by omega) (by omega) f (by
      rw [hS]
      intro a b ha hb fa fb
      obtain ⟨i, hi, rfl⟩ := List.getElem_of_mem ha
      obtain ⟨i', hi', rfl⟩ := List.getElem_of_mem hb
      rw [hf i hi] at fa
      rw [hf i' hi'] at fb
      have q1 := hsm i hi
      have q2 := hsm i' hi'
      have key : ∀ u v (hu : u < S.length) (hv : v < S.length), u < v → (l.getD u 0 == x) = true → (l.getD v 0 == x) = true → S[u] &&& S[v] ≠ 0 := by
        intro u v hu hv huv eu ev h0
        refine hno u v huv (by omega) ⟨?_, ?_⟩
        · rw [(hsm u hu).2, (hsm v hv).2, bits_and_i64_nat _ _ (by have := (hsm u hu).1; omega) (by have := (hsm v hv).1; omega), h0]; rfl
        · rw [rd_getD, rd_getD, beq_iff_eq.1 eu, beq_iff_eq.1 ev]
      by_cases h : i < i'
      · exact key i i' hi hi' h fa fb
      · by_cases h' : i' < i
        · rw [Nat.and_comm]; exact key i' i hi' hi h' fb fa
        · obtain rfl : i = i' := by omega
          rw [Nat.and_self]
          intro h0
          rw [h0, ← hS] at ha
          have := (List.mem_filter.1 ha).2
          rw [bits_zero, beq_iff_eq] at this
          omega)
    rw [hS, hc] at he
    rw [show (m - 1).toNat = m.toNat - 1 by omega, show (j - 1).toNat = j.toNat - 1 by omega]
    exact Int.ofNat_le.2 he
  · have := List.count_le_length (a := x) (l := l)
    omega
section
variable {s : List Int} (hs : Bytes s) (hl : s.length ≤ 1048576)
include hs hl
theorem coloured_l0_ok (x5 x6 : Int) : ∀ (m : Nat) (c : List Int) (i : Nat) (p h : Int), i + m = c.length → c.length ≤ 1000 → 0 ≤ p → p + 2 * m ≤ 1000000000 → ∃ (c' : List Int) (p' h' : Int), c'.length = c.length ∧ Ev (fun k => spec_l1Cur_coloured.l0 k x5 x6 c (c.length : Int) (i : Int) s p h) (x5, x6, c', p', h') := by
  intro m
  induction m with
  | zero =>
    intro c i p h hi hc p0 p1
    refine ⟨c, p, h, rfl, Ev.succ ?_⟩
    simp only [spec_l1Cur_coloured.l0]
    exact Ev.neg (by omega) (Ev.pure rfl)
  | succ m ih =>
    intro c i p h hi hc p0 p1
    obtain ⟨v, p2, h2, e, _, _, q0, q1⟩ := pick_ok hs hl p h 3 p0 (by omega) (by omega)
    obtain ⟨c', p', h', hc', hE⟩ := ih (c.set i v) (i + 1) p2 h2 (by simp; omega) (by simpa using hc) (by omega) (by omega)
    refine ⟨c', p', h', by simpa using hc', Ev.succ ?_⟩
    simp only [spec_l1Cur_coloured.l0]
    refine Ev.pos (by omega) (Ev.bind0 e (Ev.pos (by omega) (Ev.pos (by omega) ?_)))
    rw [List.length_set] at hE
    rw [Int.toNat_natCast, wrap64_id (by omega) (by omega)]
    exact hE
theorem drawIsColouring_ok : ∃ m j l, Ev (fun k => spec_DrawIsColouring.f k s) (m, j, l) ∧ 0 ≤ m ∧ m ≤ 9 ∧ -1 ≤ j ∧ j ≤ 9 ∧ l.length ≤ 100 := by
  obtain ⟨m, j, p, h, e, m0, m1, j0, j1, p0, p1⟩ := sets_ok hs hl 0 0 6 (by omega) (by omega) (by omega) (by omega)
  have fin : ∀ {l p' h'}, Ev (fun k => spec_l1Cur_coloured.f k s 0 0) (m, j, l, p', h') → Ev (fun k => spec_DrawIsColouring.f k s) (m, j, l) := fun hE => by
    unfold spec_DrawIsColouring.f
    exact Ev.bind hE (Ev.pure rfl)
  rcases tab_of m0 m1 j0 j1 with T | ⟨_, hg, _⟩
  · obtain ⟨c, hc, hcl⟩ := T.colours
    obtain ⟨l1, l2⟩ := T.len
    have hc' : Ev (fun k => spec_ColoursOf.f k m j) (c, true) := Ev.of K (fun k => spec_ColoursOf.mono _ _ _) hc
    have ho : spec_l1Own.f c = some c := by
      unfold spec_l1Own.f
      simp only [Option.bind_some, List.nil_append, List.length_nil]
      rw [if_pos (by omega)]
    obtain ⟨v, p2, h2, e2, v0, v1, q0, q1⟩ := pick_ok hs hl p h 6 (by omega) (by omega) (by omega)
    have step : ∃ (l : List Int) (p' h' : Int), l.length ≤ 100 ∧ Ev (fun k => spec_l1Cur_coloured.f k s 0 0) (m, j, l, p', h') := by
      unfold spec_l1Cur_coloured.f
      by_cases k0 : v = 0
      · obtain ⟨a, p3, h3, e3, a0, a1, r0, r1⟩ := pick_ok hs hl p2 h2 c.length (by omega) (by omega) (by omega)
        obtain ⟨b, p4, h4, e4, b0, b1, t0, t1⟩ := pick_ok hs hl p3 h3 4 (by omega) (by omega) (by omega)
        refine ⟨c.set a.toNat (wrap64 (b - 1)), p4, h4, by rw [List.length_set]; omega, Ev.bind0 e (Ev.bind0 T.given_ (Ev.pos rfl (Ev.bind hc' (Ev.bind0 ho (Ev.bind0 e2 (Ev.pos k0 (Ev.bind0 e3 (Ev.bind0 e4 (Ev.pos a0 (Ev.pos (by show a < (c.length : Int); omega) (Ev.pure rfl)))))))))))⟩
      · by_cases k1 : v = 1
        · exact ⟨c ++ [0], p2, h2, by simp; omega, Ev.bind0 e (Ev.bind0 T.given_ (Ev.pos rfl (Ev.bind hc' (Ev.bind0 ho (Ev.bind0 e2 (Ev.neg k0 (Ev.pos k1 (Ev.pos (by omega) (Ev.pure rfl)))))))))⟩
        · by_cases k2 : v = 2
          · obtain ⟨c', p', h', hc2, hE⟩ := coloured_l0_ok hs hl m j c.length c 0 p2 h2 (by omega) (by omega) (by omega) (by omega)
            exact ⟨c', p', h', by omega, Ev.bind0 e (Ev.bind0 T.given_ (Ev.pos rfl (Ev.bind hc' (Ev.bind0 ho (Ev.bind0 e2 (Ev.neg k0 (Ev.neg k1 (Ev.pos k2 hE))))))))⟩
          · exact ⟨c, p2, h2, by omega, Ev.bind0 e (Ev.bind0 T.given_ (Ev.pos rfl (Ev.bind hc' (Ev.bind0 ho (Ev.bind0 e2 (Ev.neg k0 (Ev.neg k1 (Ev.neg k2 (Ev.pure rfl)))))))))⟩
    obtain ⟨l, p', h', hll, hE⟩ := step
    exact ⟨m, j, l, fin hE, m0, m1, j0, j1, hll⟩
  · refine ⟨m, j, [0], fin (p' := p) (h' := h) ?_, m0, m1, j0, j1, by simp⟩
    unfold spec_l1Cur_coloured.f
    exact Ev.bind0 e (Ev.bind0 hg (Ev.neg (by decide) (Ev.pure rfl)))
end
theorem l3_ok (l : List Int) (g x : Int) (i : Int) (hl : l.length ≤ 1000) (next : Ev (fun k => laws_FnMeetingSets.l2 k l g l (l.length : Int) (wrap64 (i + 1))) true) : ∀ (m : Nat) (c : Nat) (n : Int), c + m = l.length → 0 ≤ n → n ≤ c → n + ((l.drop c).count x : Int) ≤ g →
    Ev (fun k => laws_FnMeetingSets.l3 k l g x n l (l.length : Int) i l (l.length : Int) (c : Int)) true := by
  intro m
  induction m with
  | zero =>
    intro c n hc n0 n1 hn
    refine Ev.succ ?_
    simp only [laws_FnMeetingSets.l3]
    exact Ev.neg (by omega) (Ev.neg (by omega) next)
  | succ m ih =>
    intro c n hc n0 n1 hn
    have hlt : c < l.length := by omega
    have e : l.drop c = rd l c :: l.drop (c + 1) := by
      rw [List.drop_eq_getElem_cons hlt]
      congr 1
      rw [rd_getD]; simp [List.getD_eq_getElem?_getD, List.getElem?_eq_getElem hlt]
    rw [e, List.count_cons] at hn
    refine Ev.succ ?_
    simp only [laws_FnMeetingSets.l3]
    have hw : wrap64 ((c : Int) + 1) = ((c + 1 : Nat) : Int) := by rw [wrap64_id (by omega) (by omega)]; omega
    have hw2 : wrap64 (n + 1) = n + 1 := wrap64_id (by omega) (by omega)
    rw [hw, hw2]
    refine Ev.pos (by omega) (Ev.pos (by omega) (Ev.pos (by omega) ?_))
    by_cases hx : x = rd l c
    · refine Ev.pos hx ?_
      rw [if_pos (by simp [hx])] at hn
      exact ih (c + 1) (n + 1) (by omega) (by omega) (by omega) (by omega)
    · refine Ev.neg hx ?_
      rw [if_neg (by simpa using fun h => hx h.symm)] at hn
      exact ih (c + 1) n (by omega) n0 (by omega) (by omega)
theorem l2_ok (l : List Int) (g : Int) (hl : l.length ≤ 1000) (hg : ∀ x, (l.count x : Int) ≤ g) : ∀ (m c : Nat), c + m = l.length → Ev (fun k => laws_FnMeetingSets.l2 k l g l (l.length : Int) (c : Int)) true := by
  intro m
  induction m with
  | zero =>
    intro c hc
    refine Ev.succ ?_
    simp only [laws_FnMeetingSets.l2]
    exact Ev.neg (by omega) (Ev.pure rfl)
  | succ m ih =>
    intro c hc
    refine Ev.succ ?_
    simp only [laws_FnMeetingSets.l2]
    have hw : wrap64 ((c : Int) + 1) = ((c + 1 : Nat) : Int) := by rw [wrap64_id (by omega) (by omega)]; omega
    refine Ev.pos (by omega) (Ev.pos (by omega) (Ev.pos (by omega) ?_))
    exact l3_ok l g (rd l c) c hl (by rw [hw]; exact ih (c + 1) (by omega)) l.length 0 0 (by omega) (by omega) (by omega) (by have := hg (rd l c); simpa using this)
section
variable {l0 l1 : List Int} (h0 : Bytes l0) (n0 : l0.length ≤ 1048576) (h1 : Bytes l1) (n1 : l1.length ≤ 1048576)
include h1 n1
theorem tail_ok : Ev (fun k => (spec_DrawIsColouring.f k l1).bind fun bt240 => ((impl_IsColouring.f k bt240.1 bt240.2.1 bt240.2.2).bind fun bt245 => ((impl_MostMeeting.f k bt240.1 bt240.2.1).bind fun bt247 => (if bt245.2 = true then (if bt245.1 = true then (laws_FnMeetingSets.j3 k bt240.2.2 bt247.1 (!bt247.2)) else (laws_FnMeetingSets.j3 k bt240.2.2 bt247.1 true)) else (laws_FnMeetingSets.j3 k bt240.2.2 bt247.1 true))))) true := by
  obtain ⟨m, j, l, hE, m0, m1, j0, j1, hll⟩ := drawIsColouring_ok h1 n1
  refine Ev.bind hE ?_
  have skip : ∀ g, Ev (fun k => laws_FnMeetingSets.j3 k l g true) true := fun g => by
    refine Ev.succ ?_
    simp only [laws_FnMeetingSets.j3]
    exact Ev.pos (by trivial) (Ev.pure rfl)
  rcases tab_of m0 m1 j0 j1 with T | ⟨hi, _, hm⟩
  · have hsets : Ev (fun k => impl_setsOf.f k m j) (setsV m j) := Ev.of K (fun k => impl_setsOf.mono _ _ _) T.sets
    have hmost : Ev (fun k => impl_MostMeeting.f k m j) _ := Ev.of K (fun k => impl_MostMeeting.mono _ _ _) T.most
    by_cases hlen : l.length = (setsV m j).length
    · by_cases hneg : (l.any fun c => decide (c < 0)) = true
      · refine Ev.bind (a := (false, true)) ?_ (Ev.bind hmost (Ev.pos rfl (Ev.neg (by decide) (skip _))))
        unfold impl_IsColouring.f
        exact Ev.bind0 T.items (Ev.pos rfl (Ev.bind hsets (Ev.pos hlen (Ev.pos hneg (Ev.pure rfl)))))
      · obtain ⟨r, hr, hno⟩ := firstApart_ev (setsV m j) l hlen (by have := T.len.2; omega)
        refine Ev.bind (a := (r.isEmpty, true)) ?_ (Ev.bind hmost (Ev.pos rfl ?_))
        · unfold impl_IsColouring.f
          exact Ev.bind0 T.items (Ev.pos rfl (Ev.bind hsets (Ev.pos hlen (Ev.neg hneg (Ev.bind hr (Ev.pure rfl))))))
        · cases r with
          | cons a r => exact Ev.neg (by simp) (skip _)
          | nil =>
            refine Ev.pos rfl (Ev.succ ?_)
            simp only [laws_FnMeetingSets.j3]
            refine Ev.neg (by simp) ?_
            exact l2_ok l _ (by omega) (count_le T l hlen (hno rfl)) l.length 0 (by omega)
    · refine Ev.bind (a := (false, true)) ?_ (Ev.bind hmost (Ev.pos rfl (Ev.neg (by decide) (skip _))))
      unfold impl_IsColouring.f
      exact Ev.bind0 T.items (Ev.pos rfl (Ev.bind hsets (Ev.neg hlen (Ev.pure rfl))))
  · refine Ev.bind (a := (false, false)) ?_ (Ev.bind (Ev.of K (fun k => impl_MostMeeting.mono _ _ _) hm) (Ev.neg (by decide) (skip _)))
    unfold impl_IsColouring.f
    exact Ev.bind0 hi (Ev.neg (by decide) (Ev.pure rfl))
omit h1 n1 in
theorem l1_ok (x7 : List Int) (a : Int) (i : Int) (y : List Int) (hy : y.length ≤ 1000) (hall : ∀ b ∈ y, impl_AreApart.f a b = some (false, true)) (next : Ev (fun k => laws_FnMeetingSets.l0 k l1 x7 x7 (x7.length : Int) (wrap64 (i + 1))) true) :
    ∀ (m c : Nat), c + m = y.length → Ev (fun k => laws_FnMeetingSets.l1 k l1 x7 a x7 (x7.length : Int) i y (y.length : Int) (c : Int)) true := by
  intro m
  induction m with
  | zero =>
    intro c hc
    refine Ev.succ ?_
    simp only [laws_FnMeetingSets.l1]
    exact Ev.neg (by omega) next
  | succ m ih =>
    intro c hc
    refine Ev.succ ?_
    simp only [laws_FnMeetingSets.l1]
    have hw : wrap64 ((c : Int) + 1) = ((c + 1 : Nat) : Int) := by rw [wrap64_id (by omega) (by omega)]; omega
    rw [hw]
    exact Ev.pos (by omega) (Ev.pos (by omega) (Ev.pos (by omega) (Ev.bind0 (hall _ (rd_mem_of (by omega) (by omega))) (Ev.pos rfl (Ev.neg (by decide) (ih (c + 1) (by omega)))))))
theorem l0_ok (x7 : List Int) (hx : x7.length ≤ 1000) (hp : pairsOk x7 = true) : ∀ (m c : Nat), c + m = x7.length → Ev (fun k => laws_FnMeetingSets.l0 k l1 x7 x7 (x7.length : Int) (c : Int)) true := by
  intro m
  induction m with
  | zero =>
    intro c hc
    refine Ev.succ ?_
    simp only [laws_FnMeetingSets.l0]
    exact Ev.neg (by omega) (tail_ok h1 n1)
  | succ m ih =>
    intro c hc
    refine Ev.succ ?_
    simp only [laws_FnMeetingSets.l0]
    have hw : wrap64 ((c : Int) + 1) = ((c + 1 : Nat) : Int) := by rw [wrap64_id (by omega) (by omega)]; omega
    refine Ev.pos (by omega) (Ev.pos (by omega) (Ev.pos (by omega) (Ev.pos (by omega) (Ev.bind0 rfl ?_))))
    have hk := List.all_eq_true.1 (List.all_eq_true.1 hp c (List.mem_range.2 (by omega)))
    refine l1_ok x7 (rd x7 c) c (x7.take (c : Int).toNat) (by rw [List.length_take]; omega) (fun b hb => ?_) (by rw [hw]; exact ih (c + 1) (by omega)) (x7.take (c : Int).toNat).length 0 (by omega)
    rw [Int.toNat_natCast] at hb
    simpa using hk b hb
end
theorem FnMeetingSets : laws_FnMeetingSets.Pure := by
  intro l0 l1 _ _ w0 _ _ w1
  have h0 := Bytes.of w0
  have h1 := Bytes.of w1
  rcases big_cases l0 l1 with hb | ⟨hb, n0, n1⟩
  · refine ⟨0, ?_⟩
    unfold laws_FnMeetingSets.f
    rw [hb]; rfl
  · refine Ev.get (g := fun k => laws_FnMeetingSets.f k l0 l1) ?_
    unfold laws_FnMeetingSets.f
    refine Ev.bind0 hb (Ev.neg (by decide) ?_)
    obtain ⟨n, k, p, h, e, a0, a1, b0, b1, _, _⟩ := sets_ok h0 n0 0 0 7 (by omega) (by omega) (by omega) (by omega)
    have hd : spec_DrawMeetingSets.f l0 = some (n, k) := by
      unfold spec_DrawMeetingSets.f spec_DrawSetsOf.f
      simp only [e, Option.bind_some]
    have c := ck_all n a0 a1 k b0 b1
    unfold ck at c
    refine Ev.bind0 hd ?_
    refine Ev.sync_bind (fun k => impl_MeetingSets.mono _ _ _) c fun v1 c => ?_
    refine Ev.sync_bind (fun k => spec_MeetingSets.mono _ _ _) c fun v2 c => ?_
    refine Ev.sync_bind (fun k => impl_MostMeeting.mono _ _ _) c fun v3 c => ?_
    refine Ev.sync_bind (fun k => spec_MostMeeting.mono _ _ _) c fun v4 c => ?_
    refine Ev.sync_no c fun c => ?_
    refine Ev.sync_bind (fun k => laws_uSame.mono _ _ _) c fun t c => ?_
    refine Ev.sync_yes c fun c => ?_
    refine Ev.sync_no c fun c => ?_
    refine Ev.sync_yes c fun c => ?_
    refine Ev.succ ?_
    simp only [laws_FnMeetingSets.j0]
    refine Ev.sync_no c fun c => ?_
    refine Ev.sync_if c (fun _ c => ?_) (fun _ c => Ev.pure rfl)
    refine Ev.sync_yes c fun c => ?_
    by_cases hp : pairsOk v1.1 = true
    · rw [if_pos hp] at c
      by_cases hq : v1.1.length ≤ 1000
      · exact l0_ok h1 n1 v1.1 hq hp v1.1.length 0 (by omega)
      · rw [if_neg hq] at c; cases c
    · rw [if_neg hp] at c; cases c
end Go.Proofs.Ytckiebdehlcjoaa.Pure
