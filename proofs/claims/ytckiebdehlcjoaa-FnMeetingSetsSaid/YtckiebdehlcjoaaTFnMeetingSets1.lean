/- A part of the proof of the law FnMeetingSets. -/
import Derived.Deep.DeepCutAuto
namespace Go.Proofs.Ytckiebdehlcjoaa.Own
open Go
/-- runs of slots that are forgotten (true: they hold what u tells) and kept, in turn; each run's length less one -/
def zipR (u : Nat → Value) : Bool → Nat → List Nat → Nat → List Value → List Value
  | _, _, _, _, [] => []
  | true, n + 1, m, j, _ :: t => u j :: zipR u true n m (j + 1) t
  | false, n + 1, m, j, v :: t => v :: zipR u false n m (j + 1) t
  | true, 0, n :: m, j, _ :: t => u j :: zipR u false n m (j + 1) t
  | false, 0, n :: m, j, v :: t => v :: zipR u true n m (j + 1) t
  | true, 0, [], j, _ :: t => u j :: t
  | false, 0, [], _, v :: t => v :: t
theorem wp_cutm {P : Program} {s : Code} {K : Act → World → Prop} {Q' : Exit → Act → World → Prop} {t : List Value} {D : _} {w : World} (b : Bool) (n : Nat) (m : List Nat) (R : (Nat → Value) → World → Prop)
    (rest : ∀ u w', R u w' → K ⟨(zipR u b n m 0 t).toArray, D⟩ w')
    (first : ∀ (J K' : Act → World → Prop), (∀ u w', R u w' → J ⟨(zipR u b n m 0 t).toArray, D⟩ w') → (∀ a' w', Met J a' w' → K' a' w') → s.wp P (Exit.then K' Q') ⟨t.toArray, D⟩ w) : s.wp P (Exit.then K Q') ⟨t.toArray, D⟩ w :=
  wp_cut (fun a' w' => ∃ u, R u w' ∧ a' = ⟨(zipR u b n m 0 t).toArray, D⟩) (by rintro a' w' ⟨u, h, rfl⟩; exact rest u w' h) (fun J K' hJ hK => first J K' (fun u w' h => hJ _ _ ⟨u, h, rfl⟩) hK)
theorem Met.m {R : (Nat → Value) → World → Prop} {J : Act → World → Prop} {b : Bool} {n : Nat} {m : List Nat} {t t2 : List Value} {D : _} {w : World} (hJ : ∀ u w', R u w' → J ⟨(zipR u b n m 0 t).toArray, D⟩ w')
    (hq : zipR (fun i => t2.getD i undef) b n m 0 t = t2) (h : R (fun i => t2.getD i undef) w) : Met J ⟨t2.toArray, D⟩ w := by
  have := hJ _ _ h
  rw [hq] at this
  exact this
end Go.Proofs.Ytckiebdehlcjoaa.Own
