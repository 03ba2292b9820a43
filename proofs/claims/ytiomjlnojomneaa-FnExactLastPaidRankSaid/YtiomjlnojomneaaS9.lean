/- Contracts about the last rank that is paid. -/
import Derived.Test.YtiomjlnojomneaaK0
import Derived.Test.YtiomjlnojomneaaK1
import Derived.Test.YtiomjlnojomneaaS8
set_option linter.unusedVariables false
set_option linter.unusedSimpArgs false
namespace Go.Proofs.Ytiomjlnojomneaa
open Go.Abs
def askA (xs : List Dem) (k : Int) : Int := sumI (xs.map (askI 1 k))
def lst (A : Int → Int) (f : Int) : Nat → Int → Int
  | 0, k => k
  | m + 1, k => if A (k + 1) ≤ f then lst A f m (k + 1) else k
theorem askI_if (lo hi : Int) (x : Dem) : askI lo hi x = if lo ≤ x.rank ∧ x.rank ≤ hi then x.asked else 0 := by
  by_cases h : lo ≤ x.rank <;> by_cases h' : x.rank ≤ hi <;> simp [askI, inR, h, h']
theorem askA_step (xs : List Dem) {k : Int} (hk : 0 ≤ k) : askA xs (k + 1) = askA xs k + sumI (xs.map (askN (k + 1))) := by
  unfold askA
  induction xs with
  | nil => rfl
  | cons x xs ih =>
    simp only [List.map_cons, sumI]
    rw [ih]
    have : askI 1 (k + 1) x = askI 1 k x + askN (k + 1) x := by
      rw [askI_if, askI_if, askN]
      simp only [beq_iff_eq]
      split <;> split <;> split <;> omega
    omega
theorem askN_bound {xs : List Dem} (h : ∀ x, x ∈ xs → isAmt x.asked = true) (k : Int) : ∀ n, n ∈ xs.map (askN k) → 0 ≤ n ∧ n ≤ 1000000000000 := by
  intro n hn
  obtain ⟨x, hx, rfl⟩ := List.mem_map.1 hn
  have := h x hx
  simp only [isAmt, inR, Bool.and_eq_true, decide_eq_true_eq] at this
  unfold askN
  split <;> omega
theorem askA_zero {xs : List Dem} : askA xs 0 = 0 := by
  unfold askA
  induction xs with
  | nil => rfl
  | cons x xs ih =>
    simp only [List.map_cons, sumI]
    rw [ih]
    have : askI 1 0 x = 0 := by
      rw [askI_if, if_neg (by omega)]
    omega
theorem askA_bound {xs : List Dem} (h : ∀ x, x ∈ xs → isAmt x.asked = true) (hl : xs.length ≤ 12) (k : Int) : xs.foldl (askF 1 k) 0 = askA xs k ∧ 0 ≤ askA xs k ∧ askA xs k ≤ 12000000000 := by
  obtain ⟨h1, h2, h3⟩ := ask_fold 1 k xs 0 h (Int.le_refl _) (by omega)
  unfold askA
  exact ⟨by omega, h2, by omega⟩
def lastV (xs : List Dem) (f : Int) : Int := bif areDem xs && isAmt f then lst (askA xs) f 5 0 else 0
def demCode (xs : List Dem) (f : Int) : Int := bif areDem xs then (bif isAmt f then 0 else 2) else 1
theorem s15 (N : Nat) (xs : List Dem) (hn : xs.length ≤ 1048576) (hx : ∀ x, x ∈ xs → x.ok) (f : Int) : Runs Try.prog 15 [.ro 3 (xs.map Dem.row), .v (.int .i64 f)] (emp N) fun r H' => r = .tup [.v (.int .i64 (lastV xs f)), .v (.int .i64 (demCode xs f))] ∧ H' = emp N := by
  refine C15_fn ?_
  unfold C15
  simp only [↓RP, RQ, if_true, if_false, cond_true, cond_false, vcBin, bne, ne_eq, vcRet, resAll, resA, retOf, Int.reduceEq, Int.reduceNe, Int.reduceLT, Int.reduceLE, Int.reduceGT, Int.reduceGE, Int.reduceBEq, Int.reduceBNe, Nat.reduceLT, Nat.reduceLeDiff, Nat.reduceAdd, Nat.reduceSub, Nat.reduceMul, Nat.reduceEqDiff, Nat.reduceBEq, Nat.reduceBNe, reduceCtorEq, Int.reduceNeg]
  first | refine vcCall.same (s65 N xs hn hx f) ?_ | refine vcQCall.same (s65 N xs hn hx f) ?_
  cases h1 : areDem xs with
  | false => simp only [↓RP, RQ, if_true, if_false, cond_true, cond_false, vcBin, bne, ne_eq, vcRet, resAll, resA, retOf, Int.reduceEq, Int.reduceNe, Int.reduceLT, Int.reduceLE, Int.reduceGT, Int.reduceGE, Int.reduceBEq, Int.reduceBNe, Nat.reduceLT, Nat.reduceLeDiff, Nat.reduceAdd, Nat.reduceSub, Nat.reduceMul, Nat.reduceEqDiff, Nat.reduceBEq, Nat.reduceBNe, reduceCtorEq, Int.reduceNeg, lastV, demCode, h1]
  | true =>
    cases h2 : isAmt f with
    | false => simp only [↓RP, RQ, if_true, if_false, cond_true, cond_false, vcBin, bne, ne_eq, vcRet, resAll, resA, retOf, Int.reduceEq, Int.reduceNe, Int.reduceLT, Int.reduceLE, Int.reduceGT, Int.reduceGE, Int.reduceBEq, Int.reduceBNe, Nat.reduceLT, Nat.reduceLeDiff, Nat.reduceAdd, Nat.reduceSub, Nat.reduceMul, Nat.reduceEqDiff, Nat.reduceBEq, Nat.reduceBNe, reduceCtorEq, Int.reduceNeg, lastV, demCode, h1, h2]
    | true =>
      obtain ⟨hl12, hgood⟩ := areDem_good h1
      have hamt : ∀ x, x ∈ xs → isAmt x.asked = true := fun x hx => (good_amt (hgood x hx)).1
      obtain ⟨T, hT⟩ : ∃ T, lst (askA xs) f 5 0 = T := ⟨_, rfl⟩
      simp only [↓RP, RQ, if_true, if_false, cond_true, cond_false, vcBin, bne, ne_eq, vcRet, resAll, resA, retOf, Int.reduceEq, Int.reduceNe, Int.reduceLT, Int.reduceLE, Int.reduceGT, Int.reduceGE, Int.reduceBEq, Int.reduceBNe, Nat.reduceLT, Nat.reduceLeDiff, Nat.reduceAdd, Nat.reduceSub, Nat.reduceMul, Nat.reduceEqDiff, Nat.reduceBEq, Nat.reduceBNe, reduceCtorEq, Int.reduceNeg]
      refine vcLoop.st (σ := Nat) 0 (fun k => k ≤ 5 ∧ T = lst (askA xs) f (5 - k) k) (fun k => 5 - k) (fun k => hl N [])
        (fun k => [.ro 3 (xs.map Dem.row), .v (.int .i64 f), .any, .any, .any, .any, .any, .v (.int .i64 (askA xs k)), .v (.int .i64 ((k : Int) + 1)), .any, .any, .any, .any, .any, .any, .any, .any, .any, .any, .any, .any, .any, .any, .any, .any, .any, .any, .any, .any, .any]) ⟨Nat.zero_le _, hT.symm⟩ (Dr.refl _) (by simp only [↓RP, RQ, if_true, if_false, cond_true, cond_false, vcBin, bne, ne_eq, vcRet, resAll, resA, retOf, Int.reduceEq, Int.reduceNe, Int.reduceLT, Int.reduceLE, Int.reduceGT, Int.reduceGE, Int.reduceBEq, Int.reduceBNe, Nat.reduceLT, Nat.reduceLeDiff, Nat.reduceAdd, Nat.reduceSub, Nat.reduceMul, Nat.reduceEqDiff, Nat.reduceBEq, Nat.reduceBNe, reduceCtorEq, Int.reduceNeg, askA_zero, Int.zero_add]) ?_
      rintro k ⟨hk, hg⟩
      simp only [↓RP, RQ, if_true, if_false, cond_true, cond_false, vcBin, bne, ne_eq, vcRet, resAll, resA, retOf, Int.reduceEq, Int.reduceNe, Int.reduceLT, Int.reduceLE, Int.reduceGT, Int.reduceGE, Int.reduceBEq, Int.reduceBNe, Nat.reduceLT, Nat.reduceLeDiff, Nat.reduceAdd, Nat.reduceSub, Nat.reduceMul, Nat.reduceEqDiff, Nat.reduceBEq, Nat.reduceBNe, reduceCtorEq, Int.reduceNeg]
      refine vcIf.dec (fun h' => ?_) (fun h' => ?_)
      · have hk5 : k < 5 := by omega
        simp only [↓RP, RQ, if_true, if_false, cond_true, cond_false, vcBin, bne, ne_eq, vcRet, resAll, resA, retOf, Int.reduceEq, Int.reduceNe, Int.reduceLT, Int.reduceLE, Int.reduceGT, Int.reduceGE, Int.reduceBEq, Int.reduceBNe, Nat.reduceLT, Nat.reduceLeDiff, Nat.reduceAdd, Nat.reduceSub, Nat.reduceMul, Nat.reduceEqDiff, Nat.reduceBEq, Nat.reduceBNe, reduceCtorEq, Int.reduceNeg, h']
        first | refine vcCall.same (s67 N xs hn ((k : Int) + 1)) ?_ | refine vcQCall.same (s67 N xs hn ((k : Int) + 1)) ?_
        simp only [↓RP, RQ, if_true, if_false, cond_true, cond_false, vcBin, bne, ne_eq, vcRet, resAll, resA, retOf, Int.reduceEq, Int.reduceNe, Int.reduceLT, Int.reduceLE, Int.reduceGT, Int.reduceGE, Int.reduceBEq, Int.reduceBNe, Nat.reduceLT, Nat.reduceLeDiff, Nat.reduceAdd, Nat.reduceSub, Nat.reduceMul, Nat.reduceEqDiff, Nat.reduceBEq, Nat.reduceBNe, reduceCtorEq, Int.reduceNeg]
        first | refine vcCall.same (s66 N (xs.map (askN ((k : Int) + 1))) (by simpa using hn)) ?_ | refine vcQCall.same (s66 N (xs.map (askN ((k : Int) + 1))) (by simpa using hn)) ?_
        obtain ⟨e1, e2, e3⟩ := sumW_eq (askN_bound hamt ((k : Int) + 1)) (by simp; omega)
        rw [List.length_map] at e3
        have e4 := askA_step xs (k := (k : Int)) (by omega)
        obtain ⟨_, e5, e6⟩ := askA_bound hamt hl12 ((k : Int) + 1)
        have e7 : IntKind.i64.wrap (askA xs k + sumW (xs.map (askN ((k : Int) + 1)))) = askA xs ((k : Int) + 1) := by rw [e1, ← e4]; exact w64 (by omega) (by omega)
        have e8 : IntKind.i64.wrap ((k : Int) + 1 + 1) = ((k + 1 : Nat) : Int) + 1 := by rw [w64 (by omega) (by omega)]; omega
        have e9 : IntKind.i64.wrap ((k : Int) + 1 - 1) = (k : Int) := by rw [w64 (by omega) (by omega)]; omega
        obtain ⟨m, hm⟩ : ∃ m, 5 - k = m + 1 := ⟨4 - k, by omega⟩
        rw [hm, lst] at hg
        simp only [↓RP, RQ, if_true, if_false, cond_true, cond_false, vcBin, bne, ne_eq, vcRet, resAll, resA, retOf, Int.reduceEq, Int.reduceNe, Int.reduceLT, Int.reduceLE, Int.reduceGT, Int.reduceGE, Int.reduceBEq, Int.reduceBNe, Nat.reduceLT, Nat.reduceLeDiff, Nat.reduceAdd, Nat.reduceSub, Nat.reduceMul, Nat.reduceEqDiff, Nat.reduceBEq, Nat.reduceBNe, reduceCtorEq, Int.reduceNeg, e7]
        refine vcIf.dec (fun h3 => ?_) (fun h3 => ?_)
        · rw [if_neg (by omega)] at hg
          simp only [↓RP, RQ, if_true, if_false, cond_true, cond_false, vcBin, bne, ne_eq, vcRet, resAll, resA, retOf, Int.reduceEq, Int.reduceNe, Int.reduceLT, Int.reduceLE, Int.reduceGT, Int.reduceGE, Int.reduceBEq, Int.reduceBNe, Nat.reduceLT, Nat.reduceLeDiff, Nat.reduceAdd, Nat.reduceSub, Nat.reduceMul, Nat.reduceEqDiff, Nat.reduceBEq, Nat.reduceBNe, reduceCtorEq, Int.reduceNeg, h3, e9, lastV, demCode, h1, h2, hT, hg]
        · rw [if_pos (by omega)] at hg
          simp only [↓RP, RQ, if_true, if_false, cond_true, cond_false, vcBin, bne, ne_eq, vcRet, resAll, resA, retOf, Int.reduceEq, Int.reduceNe, Int.reduceLT, Int.reduceLE, Int.reduceGT, Int.reduceGE, Int.reduceBEq, Int.reduceBNe, Nat.reduceLT, Nat.reduceLeDiff, Nat.reduceAdd, Nat.reduceSub, Nat.reduceMul, Nat.reduceEqDiff, Nat.reduceBEq, Nat.reduceBNe, reduceCtorEq, Int.reduceNeg, h3, e8]
          exact ⟨k + 1, by omega, ⟨by omega, by rw [hg, show 5 - (k + 1) = m by omega]; rfl⟩, by simp only [↓RP, RQ, if_true, if_false, cond_true, cond_false, vcBin, bne, ne_eq, vcRet, resAll, resA, retOf, Int.reduceEq, Int.reduceNe, Int.reduceLT, Int.reduceLE, Int.reduceGT, Int.reduceGE, Int.reduceBEq, Int.reduceBNe, Nat.reduceLT, Nat.reduceLeDiff, Nat.reduceAdd, Nat.reduceSub, Nat.reduceMul, Nat.reduceEqDiff, Nat.reduceBEq, Nat.reduceBNe, reduceCtorEq, Int.reduceNeg, show ((k + 1 : Nat) : Int) = (k : Int) + 1 from rfl]⟩
      · have hk5 : k = 5 := by omega
        subst hk5
        have hg' : T = 5 := hg
        simp only [↓RP, RQ, if_true, if_false, cond_true, cond_false, vcBin, bne, ne_eq, vcRet, resAll, resA, retOf, Int.reduceEq, Int.reduceNe, Int.reduceLT, Int.reduceLE, Int.reduceGT, Int.reduceGE, Int.reduceBEq, Int.reduceBNe, Nat.reduceLT, Nat.reduceLeDiff, Nat.reduceAdd, Nat.reduceSub, Nat.reduceMul, Nat.reduceEqDiff, Nat.reduceBEq, Nat.reduceBNe, reduceCtorEq, Int.reduceNeg, h', lastV, demCode, h1, h2, hT, hg']
theorem s17 (N : Nat) (xs : List Dem) (hn : xs.length ≤ 1048576) (hx : ∀ x, x ∈ xs → x.ok) (f : Int) : Runs Try.prog 17 [.ro 3 (xs.map Dem.row), .v (.int .i64 f)] (emp N) fun r H' => r = .tup [.v (.int .i64 (lastV xs f)), .v (.int .i64 (demCode xs f))] ∧ H' = emp N := by
  refine C17_fn ?_
  unfold C17
  simp only [↓RP, RQ, if_true, if_false, cond_true, cond_false, vcBin, bne, ne_eq, vcRet, resAll, resA, retOf, Int.reduceEq, Int.reduceNe, Int.reduceLT, Int.reduceLE, Int.reduceGT, Int.reduceGE, Int.reduceBEq, Int.reduceBNe, Nat.reduceLT, Nat.reduceLeDiff, Nat.reduceAdd, Nat.reduceSub, Nat.reduceMul, Nat.reduceEqDiff, Nat.reduceBEq, Nat.reduceBNe, reduceCtorEq, Int.reduceNeg]
  first | refine vcCall.same (s69 N xs hn hx f) ?_ | refine vcQCall.same (s69 N xs hn hx f) ?_
  cases h1 : areDem xs with
  | false => simp only [↓RP, RQ, if_true, if_false, cond_true, cond_false, vcBin, bne, ne_eq, vcRet, resAll, resA, retOf, Int.reduceEq, Int.reduceNe, Int.reduceLT, Int.reduceLE, Int.reduceGT, Int.reduceGE, Int.reduceBEq, Int.reduceBNe, Nat.reduceLT, Nat.reduceLeDiff, Nat.reduceAdd, Nat.reduceSub, Nat.reduceMul, Nat.reduceEqDiff, Nat.reduceBEq, Nat.reduceBNe, reduceCtorEq, Int.reduceNeg, lastV, demCode, h1]
  | true =>
    cases h2 : isAmt f with
    | false => simp only [↓RP, RQ, if_true, if_false, cond_true, cond_false, vcBin, bne, ne_eq, vcRet, resAll, resA, retOf, Int.reduceEq, Int.reduceNe, Int.reduceLT, Int.reduceLE, Int.reduceGT, Int.reduceGE, Int.reduceBEq, Int.reduceBNe, Nat.reduceLT, Nat.reduceLeDiff, Nat.reduceAdd, Nat.reduceSub, Nat.reduceMul, Nat.reduceEqDiff, Nat.reduceBEq, Nat.reduceBNe, reduceCtorEq, Int.reduceNeg, lastV, demCode, h1, h2]
    | true =>
      obtain ⟨hl12, hgood⟩ := areDem_good h1
      have hamt : ∀ x, x ∈ xs → isAmt x.asked = true := fun x hx => (good_amt (hgood x hx)).1
      obtain ⟨T, hT⟩ : ∃ T, lst (askA xs) f 5 0 = T := ⟨_, rfl⟩
      simp only [↓RP, RQ, if_true, if_false, cond_true, cond_false, vcBin, bne, ne_eq, vcRet, resAll, resA, retOf, Int.reduceEq, Int.reduceNe, Int.reduceLT, Int.reduceLE, Int.reduceGT, Int.reduceGE, Int.reduceBEq, Int.reduceBNe, Nat.reduceLT, Nat.reduceLeDiff, Nat.reduceAdd, Nat.reduceSub, Nat.reduceMul, Nat.reduceEqDiff, Nat.reduceBEq, Nat.reduceBNe, reduceCtorEq, Int.reduceNeg]
      refine vcLoop.st (σ := Nat) 0 (fun k => k ≤ 5 ∧ T = lst (askA xs) f (5 - k) k) (fun k => 5 - k) (fun k => hl N [])
        (fun k => [.ro 3 (xs.map Dem.row), .v (.int .i64 f), .any, .any, .any, .any, .any, .v (.int .i64 k), .any, .any, .any, .any, .any, .any, .any, .any, .any, .any, .any, .any, .any, .any, .any, .any, .any, .any, .any]) ⟨Nat.zero_le _, hT.symm⟩ (Dr.refl _) (by simp only [↓RP, RQ, if_true, if_false, cond_true, cond_false, vcBin, bne, ne_eq, vcRet, resAll, resA, retOf, Int.reduceEq, Int.reduceNe, Int.reduceLT, Int.reduceLE, Int.reduceGT, Int.reduceGE, Int.reduceBEq, Int.reduceBNe, Nat.reduceLT, Nat.reduceLeDiff, Nat.reduceAdd, Nat.reduceSub, Nat.reduceMul, Nat.reduceEqDiff, Nat.reduceBEq, Nat.reduceBNe, reduceCtorEq, Int.reduceNeg]) ?_
      rintro k ⟨hk, hg⟩
      simp only [↓RP, RQ, if_true, if_false, cond_true, cond_false, vcBin, bne, ne_eq, vcRet, resAll, resA, retOf, Int.reduceEq, Int.reduceNe, Int.reduceLT, Int.reduceLE, Int.reduceGT, Int.reduceGE, Int.reduceBEq, Int.reduceBNe, Nat.reduceLT, Nat.reduceLeDiff, Nat.reduceAdd, Nat.reduceSub, Nat.reduceMul, Nat.reduceEqDiff, Nat.reduceBEq, Nat.reduceBNe, reduceCtorEq, Int.reduceNeg]
      have e8 : IntKind.i64.wrap ((k : Int) + 1) = (k : Int) + 1 := w64 (by omega) (by omega)
      first | refine vcIf.dec (fun h5 => ?_) (fun h5 => ?_) | refine vcQIf.dec (fun h5 => ?_) (fun h5 => ?_)
      · have hk5 : k < 5 := by omega
        simp only [↓RP, RQ, if_true, if_false, cond_true, cond_false, vcBin, bne, ne_eq, vcRet, resAll, resA, retOf, Int.reduceEq, Int.reduceNe, Int.reduceLT, Int.reduceLE, Int.reduceGT, Int.reduceGE, Int.reduceBEq, Int.reduceBNe, Nat.reduceLT, Nat.reduceLeDiff, Nat.reduceAdd, Nat.reduceSub, Nat.reduceMul, Nat.reduceEqDiff, Nat.reduceBEq, Nat.reduceBNe, reduceCtorEq, Int.reduceNeg, h5, e8]
        first | refine vcCall.same (s70 N xs hn 1 ((k : Int) + 1)) ?_ | refine vcQCall.same (s70 N xs hn 1 ((k : Int) + 1)) ?_
        obtain ⟨e4, e5, e6⟩ := askA_bound hamt hl12 ((k : Int) + 1)
        obtain ⟨m, hm⟩ : ∃ m, 5 - k = m + 1 := ⟨4 - k, by omega⟩
        rw [hm, lst] at hg
        simp only [↓RP, RQ, if_true, if_false, cond_true, cond_false, vcBin, bne, ne_eq, vcRet, resAll, resA, retOf, Int.reduceEq, Int.reduceNe, Int.reduceLT, Int.reduceLE, Int.reduceGT, Int.reduceGE, Int.reduceBEq, Int.reduceBNe, Nat.reduceLT, Nat.reduceLeDiff, Nat.reduceAdd, Nat.reduceSub, Nat.reduceMul, Nat.reduceEqDiff, Nat.reduceBEq, Nat.reduceBNe, reduceCtorEq, Int.reduceNeg, h5, e4]
        first | refine vcIf.dec (fun h3 => ?_) (fun h3 => ?_) | refine vcQIf.dec (fun h3 => ?_) (fun h3 => ?_)
        · rw [if_pos h3] at hg
          simp only [↓RP, RQ, if_true, if_false, cond_true, cond_false, vcBin, bne, ne_eq, vcRet, resAll, resA, retOf, Int.reduceEq, Int.reduceNe, Int.reduceLT, Int.reduceLE, Int.reduceGT, Int.reduceGE, Int.reduceBEq, Int.reduceBNe, Nat.reduceLT, Nat.reduceLeDiff, Nat.reduceAdd, Nat.reduceSub, Nat.reduceMul, Nat.reduceEqDiff, Nat.reduceBEq, Nat.reduceBNe, reduceCtorEq, Int.reduceNeg, h5, h3, e8]
          exact ⟨k + 1, by omega, ⟨by omega, by rw [hg, show 5 - (k + 1) = m by omega]; rfl⟩, by simp only [↓RP, RQ, if_true, if_false, cond_true, cond_false, vcBin, bne, ne_eq, vcRet, resAll, resA, retOf, Int.reduceEq, Int.reduceNe, Int.reduceLT, Int.reduceLE, Int.reduceGT, Int.reduceGE, Int.reduceBEq, Int.reduceBNe, Nat.reduceLT, Nat.reduceLeDiff, Nat.reduceAdd, Nat.reduceSub, Nat.reduceMul, Nat.reduceEqDiff, Nat.reduceBEq, Nat.reduceBNe, reduceCtorEq, Int.reduceNeg, show ((k + 1 : Nat) : Int) = (k : Int) + 1 from rfl]⟩
        · rw [if_neg h3] at hg
          simp only [↓RP, RQ, if_true, if_false, cond_true, cond_false, vcBin, bne, ne_eq, vcRet, resAll, resA, retOf, Int.reduceEq, Int.reduceNe, Int.reduceLT, Int.reduceLE, Int.reduceGT, Int.reduceGE, Int.reduceBEq, Int.reduceBNe, Nat.reduceLT, Nat.reduceLeDiff, Nat.reduceAdd, Nat.reduceSub, Nat.reduceMul, Nat.reduceEqDiff, Nat.reduceBEq, Nat.reduceBNe, reduceCtorEq, Int.reduceNeg, h5, h3, lastV, demCode, h1, h2, hT, hg]
      · have hk5 : k = 5 := by omega
        subst hk5
        have hg' : T = 5 := hg
        simp only [↓RP, RQ, if_true, if_false, cond_true, cond_false, vcBin, bne, ne_eq, vcRet, resAll, resA, retOf, Int.reduceEq, Int.reduceNe, Int.reduceLT, Int.reduceLE, Int.reduceGT, Int.reduceGE, Int.reduceBEq, Int.reduceBNe, Nat.reduceLT, Nat.reduceLeDiff, Nat.reduceAdd, Nat.reduceSub, Nat.reduceMul, Nat.reduceEqDiff, Nat.reduceBEq, Nat.reduceBNe, reduceCtorEq, Int.reduceNeg, h5, lastV, demCode, h1, h2, hT, hg', show ((5 : Nat) : Int) = 5 from rfl]
theorem lawFnExactLastPaidRank (N : Nat) {a0 a1 : AV} (h0 : LeafOk (.sl [.str, .int .i64, .int .i64]) a0) (h1 : LeafOk (.int .i64) a1) : Runs Try.prog 3 [a0, a1] (emp N) fun r H' => r = .v (.bool true) ∧ H' = emp N := by
  obtain ⟨xs, rfl, hm, hw⟩ := rows_of Dem.of h0
  obtain ⟨f, rfl, _⟩ := leaf_int h1
  refine C3_fn ?_
  unfold C3
  simp only [↓RP, RQ, if_true, if_false, cond_true, cond_false, vcBin, bne, ne_eq, vcRet, resAll, resA, retOf, Int.reduceEq, Int.reduceNe, Int.reduceLT, Int.reduceLE, Int.reduceGT, Int.reduceGE, Int.reduceBEq, Int.reduceBNe, Nat.reduceLT, Nat.reduceLeDiff, Nat.reduceAdd, Nat.reduceSub, Nat.reduceMul, Nat.reduceEqDiff, Nat.reduceBEq, Nat.reduceBNe, reduceCtorEq, Int.reduceNeg]
  first | refine vcCall.same (s14 N xs _ hm) ?_ | refine vcQCall.same (s14 N xs _ hm) ?_
  simp only [↓RP, RQ, if_true, if_false, cond_true, cond_false, vcBin, bne, ne_eq, vcRet, resAll, resA, retOf, Int.reduceEq, Int.reduceNe, Int.reduceLT, Int.reduceLE, Int.reduceGT, Int.reduceGE, Int.reduceBEq, Int.reduceBNe, Nat.reduceLT, Nat.reduceLeDiff, Nat.reduceAdd, Nat.reduceSub, Nat.reduceMul, Nat.reduceEqDiff, Nat.reduceBEq, Nat.reduceBNe, reduceCtorEq, Int.reduceNeg]
  first | refine vcIf.dec (fun h => ?_) (fun h => ?_) | refine vcQIf.dec (fun h => ?_) (fun h => ?_)
  · simp only [↓RP, RQ, if_true, if_false, cond_true, cond_false, vcBin, bne, ne_eq, vcRet, resAll, resA, retOf, Int.reduceEq, Int.reduceNe, Int.reduceLT, Int.reduceLE, Int.reduceGT, Int.reduceGE, Int.reduceBEq, Int.reduceBNe, Nat.reduceLT, Nat.reduceLeDiff, Nat.reduceAdd, Nat.reduceSub, Nat.reduceMul, Nat.reduceEqDiff, Nat.reduceBEq, Nat.reduceBNe, reduceCtorEq, Int.reduceNeg, h]
  · obtain ⟨hn, hx, _⟩ := szS_fit Dem.fit hw hm (by decide) (by decide) (Int.not_lt.1 h)
    simp only [↓RP, RQ, if_true, if_false, cond_true, cond_false, vcBin, bne, ne_eq, vcRet, resAll, resA, retOf, Int.reduceEq, Int.reduceNe, Int.reduceLT, Int.reduceLE, Int.reduceGT, Int.reduceGE, Int.reduceBEq, Int.reduceBNe, Nat.reduceLT, Nat.reduceLeDiff, Nat.reduceAdd, Nat.reduceSub, Nat.reduceMul, Nat.reduceEqDiff, Nat.reduceBEq, Nat.reduceBNe, reduceCtorEq, Int.reduceNeg, h]
    first | refine vcCall.same (s16 N xs hn) ?_ | refine vcQCall.same (s16 N xs hn) ?_
    simp only [↓RP, RQ, if_true, if_false, cond_true, cond_false, vcBin, bne, ne_eq, vcRet, resAll, resA, retOf, Int.reduceEq, Int.reduceNe, Int.reduceLT, Int.reduceLE, Int.reduceGT, Int.reduceGE, Int.reduceBEq, Int.reduceBNe, Nat.reduceLT, Nat.reduceLeDiff, Nat.reduceAdd, Nat.reduceSub, Nat.reduceMul, Nat.reduceEqDiff, Nat.reduceBEq, Nat.reduceBNe, reduceCtorEq, Int.reduceNeg]
    first | refine vcCall.same (s15 N xs hn hx f) ?_ | refine vcQCall.same (s15 N xs hn hx f) ?_
    simp only [↓RP, RQ, if_true, if_false, cond_true, cond_false, vcBin, bne, ne_eq, vcRet, resAll, resA, retOf, Int.reduceEq, Int.reduceNe, Int.reduceLT, Int.reduceLE, Int.reduceGT, Int.reduceGE, Int.reduceBEq, Int.reduceBNe, Nat.reduceLT, Nat.reduceLeDiff, Nat.reduceAdd, Nat.reduceSub, Nat.reduceMul, Nat.reduceEqDiff, Nat.reduceBEq, Nat.reduceBNe, reduceCtorEq, Int.reduceNeg]
    first | refine vcCall.same (s16 N xs hn) ?_ | refine vcQCall.same (s16 N xs hn) ?_
    simp only [↓RP, RQ, if_true, if_false, cond_true, cond_false, vcBin, bne, ne_eq, vcRet, resAll, resA, retOf, Int.reduceEq, Int.reduceNe, Int.reduceLT, Int.reduceLE, Int.reduceGT, Int.reduceGE, Int.reduceBEq, Int.reduceBNe, Nat.reduceLT, Nat.reduceLeDiff, Nat.reduceAdd, Nat.reduceSub, Nat.reduceMul, Nat.reduceEqDiff, Nat.reduceBEq, Nat.reduceBNe, reduceCtorEq, Int.reduceNeg]
    first | refine vcCall.same (s17 N xs hn hx f) ?_ | refine vcQCall.same (s17 N xs hn hx f) ?_
    simp only [↓RP, RQ, if_true, if_false, cond_true, cond_false, vcBin, bne, ne_eq, vcRet, resAll, resA, retOf, Int.reduceEq, Int.reduceNe, Int.reduceLT, Int.reduceLE, Int.reduceGT, Int.reduceGE, Int.reduceBEq, Int.reduceBNe, Nat.reduceLT, Nat.reduceLeDiff, Nat.reduceAdd, Nat.reduceSub, Nat.reduceMul, Nat.reduceEqDiff, Nat.reduceBEq, Nat.reduceBNe, reduceCtorEq, Int.reduceNeg, int_refl]
    first | refine vcCall.same (s16 N xs hn) ?_ | refine vcQCall.same (s16 N xs hn) ?_
    simp only [↓RP, RQ, if_true, if_false, cond_true, cond_false, vcBin, bne, ne_eq, vcRet, resAll, resA, retOf, Int.reduceEq, Int.reduceNe, Int.reduceLT, Int.reduceLE, Int.reduceGT, Int.reduceGE, Int.reduceBEq, Int.reduceBNe, Nat.reduceLT, Nat.reduceLeDiff, Nat.reduceAdd, Nat.reduceSub, Nat.reduceMul, Nat.reduceEqDiff, Nat.reduceBEq, Nat.reduceBNe, reduceCtorEq, Int.reduceNeg]
    first | refine vcCall.same (s18 N xs hn) ?_ | refine vcQCall.same (s18 N xs hn) ?_
    simp only [↓RP, RQ, if_true, if_false, cond_true, cond_false, vcBin, bne, ne_eq, vcRet, resAll, resA, retOf, Int.reduceEq, Int.reduceNe, Int.reduceLT, Int.reduceLE, Int.reduceGT, Int.reduceGE, Int.reduceBEq, Int.reduceBNe, Nat.reduceLT, Nat.reduceLeDiff, Nat.reduceAdd, Nat.reduceSub, Nat.reduceMul, Nat.reduceEqDiff, Nat.reduceBEq, Nat.reduceBNe, reduceCtorEq, Int.reduceNeg]
end Go.Proofs.Ytiomjlnojomneaa
