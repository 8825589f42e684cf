/- What a function with fuel yields from some fuel on. -/
import Derived.Test.YtgpmbmnfcbippaaqtesVsS
set_option linter.unusedVariables false
set_option linter.unusedSimpArgs false
namespace Go.Proofs.Ytgpmbmnfcbippaa.Vs
open Go.RowKit
/-- From some fuel on, v. -/
def Ev {α : Type} (f : Nat → Option α) (v : α) : Prop := ∃ n, ∀ k, n ≤ k → f k = some v
section
variable {α β : Type} {f g : Nat → Option α} {v : α} {a : β}
theorem Ev.some (v : α) : Ev (fun _ => some v) v := ⟨0, fun _ _ => rfl⟩
theorem Ev.of {x : Option α} (h : x = Option.some v) : Ev (fun _ => x) v := ⟨0, fun _ _ => h⟩
theorem Ev.succ (h : Ev (fun k => f (k + 1)) v) : Ev f v := by
  obtain ⟨n, h⟩ := h
  refine ⟨n + 1, fun k hk => ?_⟩
  obtain ⟨m, rfl⟩ : ∃ m, k = m + 1 := ⟨k - 1, by omega⟩
  exact h m (by omega)
theorem Ev.bind {x : Nat → Option β} {y : β → Nat → Option α} (h : Ev x a) (h2 : Ev (y a) v) : Ev (fun k => Option.bind (x k) fun z => y z k) v := by
  obtain ⟨n, h⟩ := h
  obtain ⟨m, h2⟩ := h2
  exact ⟨max n m, fun k hk => by show Option.bind (x k) _ = _; rw [h k (by omega)]; exact h2 k (by omega)⟩
theorem Ev.ite {c : Prop} [Decidable c] (h1 : c → Ev f v) (h2 : ¬ c → Ev g v) : Ev (fun k => if c then f k else g k) v := by
  by_cases hc : c
  · simp only [if_pos hc]; exact h1 hc
  · simp only [if_neg hc]; exact h2 hc
theorem Ev.go {Z R : Type} {z : Z} {x : Z → Nat → Option α} {y : R → Nat → Option α} (h : Ev (x z) v) : Ev (fun k => LR.on (LR.go z : LR Z R) (fun a => x a k) (fun r => y r k)) v := h
theorem Ev.ret {Z R : Type} {r : R} {x : Z → Nat → Option α} {y : R → Nat → Option α} (h : Ev (y r) v) : Ev (fun k => LR.on (LR.ret r : LR Z R) (fun a => x a k) (fun r => y r k)) v := h
theorem Ev.congr (h : Ev f v) {w : α} (hw : v = w) : Ev f w := hw ▸ h
theorem Ev.at (h : Ev f v) : ∃ k, f k = Option.some v := by obtain ⟨n, h⟩ := h; exact ⟨n, h n (Nat.le_refl _)⟩
end
theorem w64 {n : Int} (h1 : -9223372036854775808 ≤ n) (h2 : n ≤ 9223372036854775807) : wrap64 n = n := by unfold wrap64; omega
theorem nd {c : Prop} [Decidable c] (h : (!decide c) = true) : ¬ c := by simpa using h
theorem yd {c : Prop} [Decidable c] (h : ¬ (!decide c) = true) : c := by simpa using h
/-! ### Lists by their parts -/
section
variable {α : Type}
theorem getD_mid (pre : List α) (x : α) (r : List α) (d : α) : List.getD (pre ++ x :: r) pre.length d = x := by simp [List.getD]
theorem set_mid (pre : List α) (x y : α) (r : List α) : List.set (pre ++ x :: r) pre.length y = pre ++ y :: r := by simp
theorem lt_mid (pre : List α) (x : α) (r : List α) : (pre.length : Int) < ((pre ++ x :: r).length : Int) := by simp; omega
theorem ge_mid (pre : List α) : (0 : Int) ≤ (pre.length : Int) := Int.natCast_nonneg _
theorem nlt_end (pre : List α) : ¬ (pre.length : Int) < ((pre ++ ([] : List α)).length : Int) := by simp
theorem next_mid (pre : List α) (x : α) (r : List α) (h : (pre ++ x :: r).length ≤ 9223372036854775806) : wrap64 ((pre.length : Int) + 1) = ((pre ++ [x]).length : Int) := by
  simp only [List.length_append, List.length_cons, List.length_nil] at h ⊢
  rw [w64 (by omega) (by omega)]
  omega
theorem shift_mid (pre : List α) (x : α) (r : List α) : pre ++ x :: r = (pre ++ [x]) ++ r := by simp
end
end Go.Proofs.Ytgpmbmnfcbippaa.Vs
