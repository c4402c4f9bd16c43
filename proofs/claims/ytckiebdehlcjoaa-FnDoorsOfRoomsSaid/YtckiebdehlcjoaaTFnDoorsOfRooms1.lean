/- A part of the proof of the law FnDoorsOfRooms. -/
import Derived.Test.YtckiebdehlcjoaaProg
import Derived.ChangeKeysEq
import Derived.DeepKeys
import Derived.WalkKit
import Derived.KernelRfl
import Derived.Deep.DeepCutAuto
namespace Go.Proofs.Ytckiebdehlcjoaa.Own
open Go.RowKit
section
variable {P : Program} {d c i : Nat} {e : TypeId} {xs ys : Array Value} {is : List Nat} {a b : Value} {r s : Bool} {w : World}
theorem eqi_cons (ha : (part e xs (i * c)).run P w = .ok a w) (hb : (part e ys (i * c)).run P w = .ok b w) (he : (Op.equalIn d e a b).run P w = .ok r w) (hr : (Go.Op.eqItems d e c xs ys is).run P w = .ok s w) : (Go.Op.eqItems d e c xs ys (i :: is)).run P w = .ok (r && s) w := by
  rw [Go.Op.eqItems]
  simp only [Sem.run_bind, ha, hb, he, Result.andThen_ok]
  cases r
  · simp
  · simpa using hr
theorem eqi_last (ha : (part e xs (i * c)).run P w = .ok a w) (hb : (part e ys (i * c)).run P w = .ok b w) (he : (Op.equalIn d e a b).run P w = .ok r w) : (Go.Op.eqItems d e c xs ys [i]).run P w = .ok r w := by
  have h := eqi_cons (is := []) (s := true) ha hb he (by simp [Go.Op.eqItems])
  rwa [Bool.and_true] at h
end
end Go.Proofs.Ytckiebdehlcjoaa.Own
namespace Go.Proofs.Ytckiebdehlcjoaa.Own
open Go
/-- runs of slots that are forgotten (true: they hold what u tells) and kept, in turn; each run's length less one -/
def zipR (u : Nat → Value) : Bool → Nat → List Nat → Nat → List Value → List Value
  | _, _, _, _, [] => []
  | true, n + 1, m, j, _ :: t => u j :: zipR u true n m (j + 1) t
  | false, n + 1, m, j, v :: t => v :: zipR u false n m (j + 1) t
  | true, 0, n :: m, j, _ :: t => u j :: zipR u false n m (j + 1) t
  | false, 0, n :: m, j, v :: t => v :: zipR u true n m (j + 1) t
  | true, 0, [], j, _ :: t => u j :: t
  | false, 0, [], _, v :: t => v :: t
theorem wp_cutm {P : Program} {s : Code} {K : Act → World → Prop} {Q' : Exit → Act → World → Prop} {t : List Value} {D : _} {w : World} (b : Bool) (n : Nat) (m : List Nat) (R : (Nat → Value) → World → Prop)
    (rest : ∀ u w', R u w' → K ⟨(zipR u b n m 0 t).toArray, D⟩ w')
    (first : ∀ (J K' : Act → World → Prop), (∀ u w', R u w' → J ⟨(zipR u b n m 0 t).toArray, D⟩ w') → (∀ a' w', Met J a' w' → K' a' w') → s.wp P (Exit.then K' Q') ⟨t.toArray, D⟩ w) : s.wp P (Exit.then K Q') ⟨t.toArray, D⟩ w :=
  wp_cut (fun a' w' => ∃ u, R u w' ∧ a' = ⟨(zipR u b n m 0 t).toArray, D⟩) (by rintro a' w' ⟨u, h, rfl⟩; exact rest u w' h) (fun J K' hJ hK => first J K' (fun u w' h => hJ _ _ ⟨u, h, rfl⟩) hK)
theorem Met.m {R : (Nat → Value) → World → Prop} {J : Act → World → Prop} {b : Bool} {n : Nat} {m : List Nat} {t t2 : List Value} {D : _} {w : World} (hJ : ∀ u w', R u w' → J ⟨(zipR u b n m 0 t).toArray, D⟩ w')
    (hq : zipR (fun i => t2.getD i undef) b n m 0 t = t2) (h : R (fun i => t2.getD i undef) w) : Met J ⟨t2.toArray, D⟩ w := by
  have := hJ _ _ h
  rw [hq] at this
  exact this
end Go.Proofs.Ytckiebdehlcjoaa.Own
