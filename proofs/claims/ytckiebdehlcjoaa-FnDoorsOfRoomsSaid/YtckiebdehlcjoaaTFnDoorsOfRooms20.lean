/- A part of the proof of the law FnDoorsOfRooms. -/
import Derived.Test.YtckiebdehlcjoaaTFnDoorsOfRooms3
namespace Go.Proofs.Ytckiebdehlcjoaa.Pure
open Go.RowKit Go.Proofs.YtckiebdehlcjoaaW.PrintWords Go.Proofs.YtckiebdehlcjoaaW.PrintLast
/-- With enough rounds g tells r. -/
def Ev {α : Type} (g : Nat → Option α) (r : α) : Prop := ∃ K, ∀ k, K ≤ k → g k = some r
namespace Ev
variable {α β : Type} {g : Nat → Option α} {r a : α} {b : β}
theorem get (h : Ev g r) : ∃ k, g k = some r := let ⟨K, hK⟩ := h; ⟨K, hK K (Nat.le_refl _)⟩
theorem le_of {K k : Nat} (hm : ∀ k, LeO (g k) (g (k + 1))) (h : g K = some r) (hk : K ≤ k) : g k = some r := by
  induction hk with
  | refl => exact h
  | step _ ih => exact hm _ _ ih
theorem of (K : Nat) (hm : ∀ k, LeO (g k) (g (k + 1))) (h : g K = some r) : Ev g r := ⟨K, fun _ hk => le_of hm h hk⟩
theorem pure {x : Option α} (h : x = some r) : Ev (fun _ => x) r := ⟨0, fun _ _ => h⟩
theorem bind {f : Nat → α → Option β} (h : Ev g a) (k : Ev (fun k => f k a) b) : Ev (fun k => (g k).bind (f k)) b := by
  obtain ⟨K, hK⟩ := h
  obtain ⟨L, hL⟩ := k
  refine ⟨max K L, fun k hk => ?_⟩
  have h1 := hK k (Nat.le_trans (Nat.le_max_left _ _) hk)
  have h2 := hL k (Nat.le_trans (Nat.le_max_right _ _) hk)
  show (g k).bind (f k) = some b
  rw [h1]
  exact h2
theorem bind0 {x : Option α} {f : Nat → α → Option β} (h : x = some a) (k : Ev (fun k => f k a) b) : Ev (fun k => x.bind (f k)) b := bind (pure h) k
theorem pos {c : Prop} [Decidable c] {f : Nat → Option α} (hc : c) (h : Ev g r) : Ev (fun k => if c then g k else f k) r := by
  obtain ⟨K, hK⟩ := h
  exact ⟨K, fun k hk => by show (if c then g k else f k) = some r; rw [if_pos hc]; exact hK k hk⟩
theorem neg {c : Prop} [Decidable c] {f : Nat → Option α} (hc : ¬ c) (h : Ev g r) : Ev (fun k => if c then f k else g k) r := by
  obtain ⟨K, hK⟩ := h
  exact ⟨K, fun k hk => by show (if c then f k else g k) = some r; rw [if_neg hc]; exact hK k hk⟩
theorem succ (h : Ev (fun k => g (k + 1)) r) : Ev g r := by
  obtain ⟨K, hK⟩ := h
  refine ⟨K + 1, fun k hk => ?_⟩
  obtain ⟨k, rfl⟩ : ∃ j, k = j + 1 := ⟨k - 1, by omega⟩
  exact hK k (by omega)
theorem eq {g' : Nat → Option α} (h : Ev g' r) (e : ∀ k, g k = g' k) : Ev g r := by
  obtain ⟨K, hK⟩ := h
  exact ⟨K, fun k hk => (e k).trans (hK k hk)⟩
end Ev
theorem wrap64_id {n : Int} (h0 : -9223372036854775808 ≤ n) (h1 : n < 9223372036854775808) : wrap64 n = n := by unfold wrap64; omega
theorem u64_range (n : Int) : 0 ≤ IntKind.u64.wrap n ∧ IntKind.u64.wrap n < 18446744073709551616 := by
  show 0 ≤ n % 2 ^ 64 ∧ n % 2 ^ 64 < _
  omega
theorem and255_range (x : Int) : 0 ≤ Go.bits .and .u64 (IntKind.u64.wrap x / 1099511627776) 255 ∧ Go.bits .and .u64 (IntKind.u64.wrap x / 1099511627776) 255 ≤ 255 := by
  obtain ⟨h0, h1⟩ := u64_range x
  have h2 : 0 ≤ IntKind.u64.wrap x / 1099511627776 := by omega
  have h3 := bits_and_u64_nat (IntKind.u64.wrap x / 1099511627776).toNat 255 (by omega) (by omega)
  rw [Int.toNat_of_nonneg h2] at h3
  have h4 : bits .and .u64 (IntKind.u64.wrap x / 1099511627776) ((255 : Nat) : Int) = Go.bits .and .u64 (IntKind.u64.wrap x / 1099511627776) 255 := rfl
  rw [← h4, h3]
  have h5 := @Nat.and_le_right (IntKind.u64.wrap x / 1099511627776).toNat 255
  omega
/-- the bytes of a cursor -/
def Bytes (s : List Int) : Prop := ∀ x ∈ s, 0 ≤ x ∧ x ≤ 255
theorem Bytes.of {s : List Int} (h : ∀ x ∈ s, (Lit.int .u8 x).wf = true) : Bytes s := by
  intro x hx
  have := h x hx
  simp [Lit.wf, IntKind.min, IntKind.max, IntKind.bits, IntKind.signed] at this
  omega
theorem Bytes.rd {s : List Int} (h : Bytes s) (i : Int) : 0 ≤ rd s i ∧ rd s i ≤ 255 := by
  unfold Go.Proofs.YtckiebdehlcjoaaW.PrintWords.rd
  rw [List.getD_eq_getElem?_getD]
  cases e : s[i.toNat]? with
  | none => simp
  | some x => exact h x (List.mem_of_getElem? e)
end Go.Proofs.Ytckiebdehlcjoaa.Pure
