/- A part of the proof of the law FnMeetingSets. -/
import Derived.Test.YtckiebdehlcjoaaTFnMeetingSets2
import Derived.Test.YtckiebdehlcjoaaTFnMeetingSets3
import Derived.Laws.BitsLemmas
import Derived.Test.YtckiebdehlcjoaaProg
import Derived.Below
import Derived.Deep.Draws
import Derived.Deep.AppendLies
import Derived.Maps.AppendAt
import Derived.OwnWalk
import Derived.Laws.BytesArg
import Derived.Laws.MakeOwn
import Derived.Laws.OwnMore
import Derived.Deep.OwnRows
import Derived.Tactics
import Derived.Lib.ConvBytes
import Derived.Laws.Slices
import Derived.WalkKit
import Derived.KernelRfl
import Derived.RowKit3
import Derived.Deep.LoopGhost
import Derived.Deep.QuietTactic
import Derived.BigQuiet
import Derived.WideLaws
import Derived.Deep.DeepCutAuto
import Derived.Deep.CutBlock
import Derived.Deep.RegionHeld3
import Derived.Laws.Rows
import Derived.Lib.AppendStr
import Derived.ArgAppend
import Derived.Laws.IdiomCopy
import Derived.OrdersHeld
import Derived.RowKit
import Derived.ChangeKeysEq
import Derived.DeepKeys
import Derived.Test.YtckiebdehlcjoaaTFnMeetingSets1
import Derived.Test.YtckiebdehlcjoaaTFnMeetingSets4
namespace Go.Proofs.Ytckiebdehlcjoaa.Pure
open Go.RowKit Go.Proofs.YtckiebdehlcjoaaW.PrintWords Go.Proofs.YtckiebdehlcjoaaW.PrintLast
/-- With enough rounds g tells r. -/
def Ev {α : Type} (g : Nat → Option α) (r : α) : Prop := ∃ K, ∀ k, K ≤ k → g k = some r
namespace Ev
variable {α β : Type} {g : Nat → Option α} {r a : α} {b : β}
theorem get (h : Ev g r) : ∃ k, g k = some r := let ⟨K, hK⟩ := h; ⟨K, hK K (Nat.le_refl _)⟩
theorem le_of {K k : Nat} (hm : ∀ k, LeO (g k) (g (k + 1))) (h : g K = some r) (hk : K ≤ k) : g k = some r := by
  induction hk with
  | refl => exact h
  | step _ ih => exact hm _ _ ih
theorem of (K : Nat) (hm : ∀ k, LeO (g k) (g (k + 1))) (h : g K = some r) : Ev g r := ⟨K, fun _ hk => le_of hm h hk⟩
theorem pure {x : Option α} (h : x = some r) : Ev (fun _ => x) r := ⟨0, fun _ _ => h⟩
theorem bind {f : Nat → α → Option β} (h : Ev g a) (k : Ev (fun k => f k a) b) : Ev (fun k => (g k).bind (f k)) b := by
  obtain ⟨K, hK⟩ := h
  obtain ⟨L, hL⟩ := k
  refine ⟨max K L, fun k hk => ?_⟩
  have h1 := hK k (Nat.le_trans (Nat.le_max_left _ _) hk)
  have h2 := hL k (Nat.le_trans (Nat.le_max_right _ _) hk)
  show (g k).bind (f k) = some b
  rw [h1]
  exact h2
theorem bind0 {x : Option α} {f : Nat → α → Option β} (h : x = some a) (k : Ev (fun k => f k a) b) : Ev (fun k => x.bind (f k)) b := bind (pure h) k
theorem pos {c : Prop} [Decidable c] {f : Nat → Option α} (hc : c) (h : Ev g r) : Ev (fun k => if c then g k else f k) r := by
  obtain ⟨K, hK⟩ := h
  exact ⟨K, fun k hk => by show (if c then g k else f k) = some r; rw [if_pos hc]; exact hK k hk⟩
theorem neg {c : Prop} [Decidable c] {f : Nat → Option α} (hc : ¬ c) (h : Ev g r) : Ev (fun k => if c then f k else g k) r := by
  obtain ⟨K, hK⟩ := h
  exact ⟨K, fun k hk => by show (if c then f k else g k) = some r; rw [if_neg hc]; exact hK k hk⟩
theorem succ (h : Ev (fun k => g (k + 1)) r) : Ev g r := by
  obtain ⟨K, hK⟩ := h
  refine ⟨K + 1, fun k hk => ?_⟩
  obtain ⟨k, rfl⟩ : ∃ j, k = j + 1 := ⟨k - 1, by omega⟩
  exact hK k (by omega)
section
variable {γ : Type} {x : Nat → Option α} {f : Nat → α → Option β} {f0 : α → Option γ} {c : γ} {K : Nat} {y y' : Option γ} {g2 g3 : Nat → Option β}
/-- A check that has been reckoned, and what is to be told, step by step. -/
theorem sync_bind (hm : ∀ k, LeO (x k) (x (k + 1))) (h : (x K).bind f0 = some c) (k : ∀ a, f0 a = some c → Ev (fun k => f k a) b) : Ev (fun k => (x k).bind (f k)) b := by
  obtain ⟨a, ha, h⟩ := Option.bind_eq_some_iff.1 h
  exact bind (of K hm ha) (k a h)
theorem sync_no {p : Prop} [Decidable p] (h : (if p then Option.none else y) = some c) (k : y = some c → Ev g2 b) : Ev (fun k => if p then Option.none else g2 k) b := by
  by_cases hp : p
  · rw [if_pos hp] at h; cases h
  · rw [if_neg hp] at h; exact neg hp (k h)
theorem sync_yes {p : Prop} [Decidable p] (h : (if p then y else Option.none) = some c) (k : y = some c → Ev g2 b) : Ev (fun k => if p then g2 k else Option.none) b := by
  by_cases hp : p
  · rw [if_pos hp] at h; exact pos hp (k h)
  · rw [if_neg hp] at h; cases h
theorem sync_if {p : Prop} [Decidable p] (h : (if p then y else y') = some c) (k : p → y = some c → Ev g2 b) (k' : ¬ p → y' = some c → Ev g3 b) : Ev (fun k => if p then g2 k else g3 k) b := by
  by_cases hp : p
  · rw [if_pos hp] at h; exact pos hp (k hp h)
  · rw [if_neg hp] at h; exact neg hp (k' hp h)
end
end Ev
theorem wrap64_id {n : Int} (h0 : -9223372036854775808 ≤ n) (h1 : n < 9223372036854775808) : wrap64 n = n := by unfold wrap64; omega
theorem u64_range (n : Int) : 0 ≤ IntKind.u64.wrap n ∧ IntKind.u64.wrap n < 18446744073709551616 := by
  show 0 ≤ n % 2 ^ 64 ∧ n % 2 ^ 64 < _
  omega
theorem and255_range (x : Int) : 0 ≤ Go.bits .and .u64 (IntKind.u64.wrap x / 1099511627776) 255 ∧ Go.bits .and .u64 (IntKind.u64.wrap x / 1099511627776) 255 ≤ 255 := by
  obtain ⟨h0, h1⟩ := u64_range x
  have h2 : 0 ≤ IntKind.u64.wrap x / 1099511627776 := by omega
  have h3 := bits_and_u64_nat (IntKind.u64.wrap x / 1099511627776).toNat 255 (by omega) (by omega)
  rw [Int.toNat_of_nonneg h2] at h3
  have h4 : bits .and .u64 (IntKind.u64.wrap x / 1099511627776) ((255 : Nat) : Int) = Go.bits .and .u64 (IntKind.u64.wrap x / 1099511627776) 255 := rfl
  rw [← h4, h3]
  have h5 := @Nat.and_le_right (IntKind.u64.wrap x / 1099511627776).toNat 255
  omega
/-- the bytes of a cursor -/
def Bytes (s : List Int) : Prop := ∀ x ∈ s, 0 ≤ x ∧ x ≤ 255
theorem Bytes.of {s : List Int} (h : ∀ x ∈ s, (Lit.int .u8 x).wf = true) : Bytes s := by
  intro x hx
  have := h x hx
  simp [Lit.wf, IntKind.min, IntKind.max, IntKind.bits, IntKind.signed] at this
  omega
theorem Bytes.rd {s : List Int} (h : Bytes s) (i : Int) : 0 ≤ rd s i ∧ rd s i ≤ 255 := by
  unfold Go.Proofs.YtckiebdehlcjoaaW.PrintWords.rd
  rw [List.getD_eq_getElem?_getD]
  cases e : s[i.toNat]? with
  | none => simp
  | some x => exact h x (List.mem_of_getElem? e)
end Go.Proofs.Ytckiebdehlcjoaa.Pure
namespace Go.Proofs.Ytckiebdehlcjoaa.Pure
open Go.RowKit Go.Proofs.Ytckiebdehlcjoaa.P Go.Proofs.YtckiebdehlcjoaaW.PrintWords Go.Proofs.YtckiebdehlcjoaaW.PrintLast
set_option linter.unusedVariables false
theorem next_ok {s : List Int} (hs : Bytes s) (hl : s.length ≤ 1048576) (p h : Int) (h0 : 0 ≤ p) (h1 : p ≤ 1099511627776) :
    ∃ v h', spec_l1Cur_next.f s p h = some (v, p + 1, h') ∧ 0 ≤ v ∧ v ≤ 255 := by
  unfold spec_l1Cur_next.f
  have hw : wrap64 (p + 1) = p + 1 := wrap64_id (by omega) (by omega)
  have hr := hs.rd p
  have hw2 : wrap64 (rd s p) = rd s p := wrap64_id (by omega) (by omega)
  rw [hw, hw2]
  by_cases c1 : p < (s.length : Int)
  · rw [if_pos c1, if_pos h0, if_pos (by omega)]
    exact ⟨_, _, rfl, hr.1, hr.2⟩
  · rw [if_neg c1, if_neg (by omega)]
    refine ⟨_, _, rfl, ?_⟩
    have := and255_range (IntKind.u64.wrap (IntKind.u64.wrap (h * 6364136223846793005)) + 1442695040888963407)
    rw [wrap64_id (by omega) (by omega)]
    exact this
theorem pick_ok {s : List Int} (hs : Bytes s) (hl : s.length ≤ 1048576) (p h n : Int) (h0 : 0 ≤ p) (h1 : p ≤ 1000000000000) (hn : n ≤ 1000000000) :
    ∃ v p' h', spec_l1Cur_pick.f s p h n = some (v, p', h') ∧ 0 ≤ v ∧ (v < n ∨ v = 0) ∧ p ≤ p' ∧ p' ≤ p + 2 := by
  unfold spec_l1Cur_pick.f
  by_cases c : n ≤ 1
  · rw [if_pos c]
    exact ⟨_, _, _, rfl, by omega, .inr rfl, by omega, by omega⟩
  · rw [if_neg c]
    obtain ⟨v, h', e, hv0, hv1⟩ := next_ok hs hl p h h0 (by omega)
    rw [e, Option.bind_some]
    show ∃ v_ p' h'_, (if n > 200 then (spec_l1Cur_next.f s (p + 1) h').bind _ else _) = some (v_, p', h'_) ∧ _
    by_cases c2 : n > 200
    · rw [if_pos c2]
      obtain ⟨v2, h2, e2, hv2, hv3⟩ := next_ok hs hl (p + 1) h' (by omega) (by omega)
      rw [e2, Option.bind_some, if_neg (by omega)]
      have hw : wrap64 (wrap64 (v * 256) + v2) = v * 256 + v2 := by rw [wrap64_id (n := v * 256) (by omega) (by omega), wrap64_id (by omega) (by omega)]
      refine ⟨_, _, _, rfl, ?_, .inl ?_, by show p ≤ p + 1 + 1; omega, by show p + 1 + 1 ≤ p + 2; omega⟩
      · show 0 ≤ Int.tmod (wrap64 (wrap64 (v * 256) + v2)) n
        rw [hw]; exact Int.tmod_nonneg _ (by omega)
      · show Int.tmod (wrap64 (wrap64 (v * 256) + v2)) n < n
        rw [hw, Int.tmod_eq_emod_of_nonneg (by omega)]
        exact Int.emod_lt_of_pos _ (by omega)
    · rw [if_neg c2, if_neg (by omega)]
      refine ⟨_, _, _, rfl, Int.tmod_nonneg _ hv0, .inl ?_, by show p ≤ p + 1; omega, by show p + 1 ≤ p + 2; omega⟩
      show Int.tmod v n < n
      rw [Int.tmod_eq_emod_of_nonneg hv0]
      exact Int.emod_lt_of_pos _ (by omega)
theorem rd_mem_of {l : List Int} {i : Int} (h0 : 0 ≤ i) (h1 : i < l.length) : rd l i ∈ l := by
  unfold rd
  have h : i.toNat < l.length := by omega
  rw [List.getD_eq_getElem?_getD, List.getElem?_eq_getElem h]
  exact List.getElem_mem _
theorem among_ok {s : List Int} (hs : Bytes s) (hl : s.length ≤ 1048576) (p h : Int) (l : List Int) (h0 : 0 ≤ p) (h1 : p ≤ 1000000000000) (hn : 0 < l.length) (hn2 : l.length ≤ 1000000) :
    ∃ v p' h', spec_l1Cur_among.f s p h l = some (v, p', h') ∧ v ∈ l ∧ p ≤ p' ∧ p' ≤ p + 2 := by
  unfold spec_l1Cur_among.f
  obtain ⟨v, p', h', e, hv0, hv1, hp0, hp1⟩ := pick_ok hs hl p h l.length h0 h1 (by omega)
  rw [e, Option.bind_some]
  have hv : v < l.length := by omega
  show ∃ v_ p'_ h'_, (if 0 ≤ v then (if v < (l.length : Int) then some (rd l v, p', h') else none) else none) = some (v_, p'_, h'_) ∧ _
  rw [if_pos hv0, if_pos hv]
  exact ⟨_, _, _, rfl, rd_mem_of hv0 hv, hp0, hp1⟩
end Go.Proofs.Ytckiebdehlcjoaa.Pure
set_option linter.unusedVariables false
namespace Go.Proofs.Ytckiebdehlcjoaa.Kn
def bits : Nat → Nat → Nat
  | 0, _ => 0
  | f + 1, x => x % 2 + bits f (x / 2)
def sets (n k : Nat) : List Nat := (List.range (2 ^ n)).filter fun s => bits n s == k
def best : List Nat → List Nat → Nat
  | acc, [] => acc.length
  | acc, x :: g => max (best acc g) (if acc.all (fun y => x &&& y != 0) then best (x :: acc) g else 0)
theorem best_le (f : Nat → Bool) : ∀ (g acc : List Nat), (∀ a b, (a ∈ acc ∨ (a ∈ g ∧ f a = true)) → (b ∈ acc ∨ (b ∈ g ∧ f b = true)) → a &&& b ≠ 0) → g.countP f + acc.length ≤ best acc g := by
  intro g
  induction g with
  | nil => intro acc _; simp [best]
  | cons x g ih =>
    intro acc h
    simp only [best]
    by_cases hx : f x = true
    · rw [List.countP_cons_of_pos hx]
      have h1 : acc.all (fun y => x &&& y != 0) = true := by
        rw [List.all_eq_true]; intro y hy
        simpa using h x y (Or.inr ⟨by simp, hx⟩) (Or.inl hy)
      rw [if_pos h1]
      have := ih (x :: acc) (fun a b ha hb => by
        refine h a b ?_ ?_
        · rcases ha with ha | ha
          · rcases List.mem_cons.1 ha with rfl | ha
            · exact Or.inr ⟨by simp, hx⟩
            · exact Or.inl ha
          · exact Or.inr ⟨by simp [ha.1], ha.2⟩
        · rcases hb with hb | hb
          · rcases List.mem_cons.1 hb with rfl | hb
            · exact Or.inr ⟨by simp, hx⟩
            · exact Or.inl hb
          · exact Or.inr ⟨by simp [hb.1], hb.2⟩)
      simp only [List.length_cons] at this
      omega
    · rw [List.countP_cons_of_neg hx]
      have := ih acc (fun a b ha hb => by
        refine h a b ?_ ?_
        · rcases ha with ha | ha
          · exact Or.inl ha
          · exact Or.inr ⟨by simp [ha.1], ha.2⟩
        · rcases hb with hb | hb
          · exact Or.inl hb
          · exact Or.inr ⟨by simp [hb.1], hb.2⟩)
      omega
def arcs (order : List Nat) (k : Nat) : List Nat := (List.range order.length).map fun i => ((List.range k).map fun j => 2 ^ (order.getD ((i + j) % order.length) 0)).sum
/-- groups of sets, each with at most `bound` that all meet; together each set `lam` times -/
def cert (n k lam bound : Nat) (groups : List (List Nat)) : Bool :=
  groups.all (fun g => decide (best [] g ≤ bound)) && groups.flatten.isPerm (List.replicate lam (sets n k)).flatten
theorem cert_le {n k lam bound : Nat} {groups : List (List Nat)} (h : cert n k lam bound groups = true) (f : Nat → Bool) (hf : ∀ a b, a ∈ sets n k → b ∈ sets n k → f a = true → f b = true → a &&& b ≠ 0) (hl : 0 < lam) :
    lam * (sets n k).countP f ≤ groups.length * bound := by
  simp only [cert, Bool.and_eq_true, List.all_eq_true, decide_eq_true_eq] at h
  obtain ⟨h1, h2⟩ := h
  have hp := List.isPerm_iff.1 h2
  have e1 : ∀ m, (List.replicate m (sets n k)).flatten.countP f = m * (sets n k).countP f := by
    intro m
    induction m with
    | zero => simp
    | succ m ih => rw [List.replicate_succ, List.flatten_cons, List.countP_append, ih, Nat.succ_mul]; omega
  rw [← e1, ← hp.countP_eq]
  have hm : ∀ g, g ∈ groups → ∀ a, a ∈ g → a ∈ sets n k := by
    intro g hg a ha
    have : a ∈ (List.replicate lam (sets n k)).flatten := hp.mem_iff.1 (List.mem_flatten.2 ⟨g, hg, ha⟩)
    obtain ⟨l, hl, ha⟩ := List.mem_flatten.1 this
    rw [List.mem_replicate] at hl
    exact hl.2 ▸ ha
  clear hp h2
  induction groups with
  | nil => simp
  | cons g groups ih =>
    rw [List.flatten_cons, List.countP_append]
    have := ih (fun g' hg' => h1 g' (by simp [hg'])) (fun g' hg' => hm g' (by simp [hg']))
    have hb := best_le f g [] (fun a b ha hb => by
      rcases ha with ha | ha
      · simp at ha
      · rcases hb with hb | hb
        · simp at hb
        · exact hf a b (hm g (by simp) a ha.1) (hm g (by simp) b hb.1) ha.2 hb.2)
    have hb2 := h1 g (by simp)
    simp only [List.length_nil, List.length_cons] at hb ⊢
    rw [Nat.succ_mul]
    omega
def halves (n k : Nat) : List (List Nat) := (((sets n k).filter fun s => s % 2 == 1).map fun s => [s, 2 ^ n - 1 - s])
def groupsOf : Nat → Nat → List (List Nat)
  | 5, 2 => [[0, 1, 2, 3, 4], [0, 2, 4, 1, 3]].map (arcs · 2)
  | 6, 2 => [[0, 1, 5, 4, 3, 2], [0, 1, 2, 5, 4, 3], [0, 4, 2, 3, 1, 5], [0, 3, 5, 2, 1, 4], [0, 2, 4, 1, 3, 5]].map (arcs · 2)
  | 7, 2 => [[0, 1, 2, 5, 6, 3, 4], [0, 2, 3, 5, 1, 4, 6], [0, 3, 1, 6, 2, 4, 5]].map (arcs · 2)
  | 7, 3 => [[0, 1, 2, 5, 6, 3, 4], [0, 2, 4, 5, 6, 1, 3], [0, 5, 1, 4, 2, 3, 6], [0, 4, 5, 3, 2, 1, 6], [0, 2, 6, 4, 1, 3, 5]].map (arcs · 3)
  | 8, 2 => [[0, 1, 2, 6, 4, 5, 7, 3], [0, 2, 1, 4, 7, 6, 5, 3], [0, 4, 3, 2, 7, 6, 1, 5], [0, 6, 4, 5, 1, 3, 2, 7], [0, 2, 4, 3, 5, 6, 1, 7], [0, 4, 2, 5, 7, 1, 3, 6], [0, 1, 4, 7, 3, 6, 2, 5]].map (arcs · 2)
  | 8, 3 => [[0, 2, 1, 4, 7, 6, 5, 3], [0, 1, 3, 7, 4, 5, 2, 6], [0, 1, 4, 6, 2, 3, 5, 7], [0, 2, 4, 3, 6, 7, 1, 5], [0, 3, 4, 5, 6, 1, 2, 7], [0, 4, 7, 2, 5, 1, 3, 6], [0, 5, 4, 1, 3, 2, 7, 6]].map (arcs · 3)
  | n, 1 => [sets n 1]
  | n, k => halves n k
/-- choices of k of n things -/
def cho : Nat → Nat → Nat
  | _, 0 => 1
  | 0, _ + 1 => 0
  | n + 1, k + 1 => cho n k + cho n (k + 1)
set_option maxRecDepth 100000 in
theorem certs : ((List.range 9).all fun n => (List.range 5).all fun k => if 1 ≤ k ∧ 2 * k ≤ n then
    (let g := groupsOf n k; let b := if k = 1 then 1 else if 2 * k = n then 1 else k; let lam := if (n = 6 ∧ k = 2) ∨ (n = 8 ∧ k = 2) then 2 else 1
     cert n k lam b g && decide (g.length * b = lam * cho (n - 1) (k - 1))) else true) = true := by decide +kernel
theorem ekr {n k : Nat} (hk : 1 ≤ k) (hkn : 2 * k ≤ n) (hn : n ≤ 8) (f : Nat → Bool) (hf : ∀ a b, a ∈ sets n k → b ∈ sets n k → f a = true → f b = true → a &&& b ≠ 0) : (sets n k).countP f ≤ cho (n - 1) (k - 1) := by
  have h := List.all_eq_true.1 certs n (List.mem_range.2 (by omega))
  have h := List.all_eq_true.1 h k (List.mem_range.2 (by omega))
  rw [if_pos ⟨hk, hkn⟩] at h
  simp only [Bool.and_eq_true, decide_eq_true_eq] at h
  have hlam : 0 < (if (n = 6 ∧ k = 2) ∨ (n = 8 ∧ k = 2) then 2 else 1) := by split <;> omega
  have := cert_le h.1 f hf hlam
  rw [h.2] at this
  exact Nat.le_of_mul_le_mul_left this hlam
end Go.Proofs.Ytckiebdehlcjoaa.Kn
