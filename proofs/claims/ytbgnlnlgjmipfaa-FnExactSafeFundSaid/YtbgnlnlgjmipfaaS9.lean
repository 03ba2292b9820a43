/- Contracts about the last rank that is paid. -/
import Derived.Test.YtbgnlnlgjmipfaaS8
set_option linter.unusedVariables false
set_option linter.unusedSimpArgs false
namespace Go.Proofs.Ytbgnlnlgjmipfaa
open Go.Abs
def askA (xs : List Dem) (k : Int) : Int := sumI (xs.map (askI 1 k))
def lst (A : Int → Int) (f : Int) : Nat → Int → Int
  | 0, k => k
  | m + 1, k => if A (k + 1) ≤ f then lst A f m (k + 1) else k
theorem askI_if (lo hi : Int) (x : Dem) : askI lo hi x = if lo ≤ x.rank ∧ x.rank ≤ hi then x.asked else 0 := by
  by_cases h : lo ≤ x.rank <;> by_cases h' : x.rank ≤ hi <;> simp [askI, inR, h, h']
theorem askA_step (xs : List Dem) {k : Int} (hk : 0 ≤ k) : askA xs (k + 1) = askA xs k + sumI (xs.map (askN (k + 1))) := by
  unfold askA
  induction xs with
  | nil => rfl
  | cons x xs ih =>
    simp only [List.map_cons, sumI]
    rw [ih]
    have : askI 1 (k + 1) x = askI 1 k x + askN (k + 1) x := by
      rw [askI_if, askI_if, askN]
      simp only [beq_iff_eq]
      split <;> split <;> split <;> omega
    omega
theorem askN_bound {xs : List Dem} (h : ∀ x, x ∈ xs → isAmt x.asked = true) (k : Int) : ∀ n, n ∈ xs.map (askN k) → 0 ≤ n ∧ n ≤ 1000000000000 := by
  intro n hn
  obtain ⟨x, hx, rfl⟩ := List.mem_map.1 hn
  have := h x hx
  simp only [isAmt, inR, Bool.and_eq_true, decide_eq_true_eq] at this
  unfold askN
  split <;> omega
theorem askA_zero {xs : List Dem} : askA xs 0 = 0 := by
  unfold askA
  induction xs with
  | nil => rfl
  | cons x xs ih =>
    simp only [List.map_cons, sumI]
    rw [ih]
    have : askI 1 0 x = 0 := by
      rw [askI_if, if_neg (by omega)]
    omega
theorem askA_bound {xs : List Dem} (h : ∀ x, x ∈ xs → isAmt x.asked = true) (hl : xs.length ≤ 12) (k : Int) : xs.foldl (askF 1 k) 0 = askA xs k ∧ 0 ≤ askA xs k ∧ askA xs k ≤ 12000000000 := by
  obtain ⟨h1, h2, h3⟩ := ask_fold 1 k xs 0 h (Int.le_refl _) (by omega)
  unfold askA
  exact ⟨by omega, h2, by omega⟩
def lastV (xs : List Dem) (f : Int) : Int := bif areDem xs && isAmt f then lst (askA xs) f 5 0 else 0
def demCode (xs : List Dem) (f : Int) : Int := bif areDem xs then (bif isAmt f then 0 else 2) else 1
end Go.Proofs.Ytbgnlnlgjmipfaa
