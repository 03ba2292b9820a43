/- Contracts about days, business days and notices. -/
import Derived.Test.YtpaflfaokgapgaaK0
import Derived.Test.YtpaflfaokgapgaaS2
set_option linter.unusedVariables false
set_option linter.unusedSimpArgs false
namespace Go.Proofs.Ytpaflfaokgapgaa
open Go.Abs
/-- The first business day from a day on; the business day some days behind. -/
def onb (n : Int) : Int := if (n + 3) % 7 > 4 then n + (7 - (n + 3) % 7) else n
def busI : Nat → Int → Int
  | 0, n => n
  | k + 1, n => busI k (onb (n + 1))
def bus (n d : Int) : Int := busI d.toNat (onb n)
theorem onb_le (n : Int) : n ≤ onb n ∧ onb n ≤ n + 2 := by unfold onb; split <;> omega
theorem busI_le : ∀ (k : Nat) (n : Int), n ≤ busI k n ∧ busI k n ≤ n + 3 * k
  | 0, n => by simp [busI]
  | k + 1, n => by
    have h1 := onb_le (n + 1)
    have h2 := busI_le k (onb (n + 1))
    rw [busI]; omega
theorem bus_le (n d : Int) : n ≤ bus n d ∧ bus n d ≤ n + 2 + 3 * d.toNat := by
  have h1 := onb_le n
  have h2 := busI_le d.toNat (onb n)
  unfold bus; omega
def wkd (n : Int) : Nat := if (n + 3) % 7 > 4 then (7 - (n + 3) % 7).toNat else 0
theorem onb_step {n : Int} (h : (n + 3) % 7 > 4) : onb (n + 1) = onb n ∧ wkd (n + 1) < wkd n := by
  unfold onb wkd; constructor <;> (repeat' split) <;> omega
theorem onb_stop {n : Int} (h : ¬ (n + 3) % 7 > 4) : onb n = n := by unfold onb; rw [if_neg h]
theorem s144 (N : Nat) (n : Int) (h0 : 0 ≤ n) (h1 : n ≤ 1000000) : Runs Try.prog 144 [.v (.int .i64 n)] (emp N) fun r H' => r = .v (.int .i64 ((n + 3) % 7)) ∧ H' = emp N := by
  have e1 : IntKind.i64.wrap (n + 3) = n + 3 := w64 (by omega) (by omega)
  have e2 : Int.tmod (n + 3) 7 = (n + 3) % 7 := Int.tmod_eq_emod_of_nonneg (by omega)
  refine C144_fn ?_
  unfold C144
  simp only [↓RP, RQ, if_true, if_false, cond_true, cond_false, vcBin, bne, ne_eq, vcRet, resAll, resA, retOf, Int.reduceEq, Int.reduceNe, Int.reduceLT, Int.reduceLE, Int.reduceGT, Int.reduceGE, Int.reduceBEq, Int.reduceBNe, Nat.reduceLT, Nat.reduceLeDiff, Nat.reduceAdd, Nat.reduceSub, Nat.reduceMul, Nat.reduceEqDiff, Nat.reduceBEq, Nat.reduceBNe, reduceCtorEq, Int.reduceNeg, e1, e2]
theorem s164 (N : Nat) (n : Int) (h0 : 0 ≤ n) (h1 : n ≤ 1000000) : Runs Try.prog 164 [.v (.int .i64 n)] (emp N) fun r H' => r = .v (.int .i64 ((n + 3) % 7)) ∧ H' = emp N := by
  have e1 : IntKind.i64.wrap (n + 3) = n + 3 := w64 (by omega) (by omega)
  have e2 : Int.tmod (n + 3) 7 = (n + 3) % 7 := Int.tmod_eq_emod_of_nonneg (by omega)
  refine C164_fn ?_
  unfold C164
  simp only [↓RP, RQ, if_true, if_false, cond_true, cond_false, vcBin, bne, ne_eq, vcRet, resAll, resA, retOf, Int.reduceEq, Int.reduceNe, Int.reduceLT, Int.reduceLE, Int.reduceGT, Int.reduceGE, Int.reduceBEq, Int.reduceBNe, Nat.reduceLT, Nat.reduceLeDiff, Nat.reduceAdd, Nat.reduceSub, Nat.reduceMul, Nat.reduceEqDiff, Nat.reduceBEq, Nat.reduceBNe, reduceCtorEq, Int.reduceNeg, e1, e2]
theorem s150 (N : Nat) (n : Int) (h0 : 0 ≤ n) (h1 : n ≤ 500000) : Runs Try.prog 150 [.v (.int .i64 n)] (emp N) fun r H' => r = .v (.int .i64 (onb n)) ∧ H' = emp N := by
  refine C150_fn ?_
  unfold C150
  simp only [↓RP, RQ, if_true, if_false, cond_true, cond_false, vcBin, bne, ne_eq, vcRet, resAll, resA, retOf, Int.reduceEq, Int.reduceNe, Int.reduceLT, Int.reduceLE, Int.reduceGT, Int.reduceGE, Int.reduceBEq, Int.reduceBNe, Nat.reduceLT, Nat.reduceLeDiff, Nat.reduceAdd, Nat.reduceSub, Nat.reduceMul, Nat.reduceEqDiff, Nat.reduceBEq, Nat.reduceBNe, reduceCtorEq, Int.reduceNeg]
  refine vcLoop.st (σ := Int) n (fun m => n ≤ m ∧ m ≤ onb n ∧ onb n = onb m) wkd (fun _ => hl N []) (fun m => [.v (.int .i64 m), .any, .any, .any, .any, .any, .any, .any, .any]) ⟨Int.le_refl _, (onb_le n).1, rfl⟩ (Dr.refl _) (by simp only [↓RP, RQ, if_true, if_false, cond_true, cond_false, vcBin, bne, ne_eq, vcRet, resAll, resA, retOf, Int.reduceEq, Int.reduceNe, Int.reduceLT, Int.reduceLE, Int.reduceGT, Int.reduceGE, Int.reduceBEq, Int.reduceBNe, Nat.reduceLT, Nat.reduceLeDiff, Nat.reduceAdd, Nat.reduceSub, Nat.reduceMul, Nat.reduceEqDiff, Nat.reduceBEq, Nat.reduceBNe, reduceCtorEq, Int.reduceNeg]) ?_
  rintro m ⟨hm1, hm2, hg⟩
  have hb := onb_le n
  simp only [↓RP, RQ, if_true, if_false, cond_true, cond_false, vcBin, bne, ne_eq, vcRet, resAll, resA, retOf, Int.reduceEq, Int.reduceNe, Int.reduceLT, Int.reduceLE, Int.reduceGT, Int.reduceGE, Int.reduceBEq, Int.reduceBNe, Nat.reduceLT, Nat.reduceLeDiff, Nat.reduceAdd, Nat.reduceSub, Nat.reduceMul, Nat.reduceEqDiff, Nat.reduceBEq, Nat.reduceBNe, reduceCtorEq, Int.reduceNeg]
  first | refine vcCall.same (s164 N m (by omega) (by omega)) ?_ | refine vcQCall.same (s164 N m (by omega) (by omega)) ?_
  simp only [↓RP, RQ, if_true, if_false, cond_true, cond_false, vcBin, bne, ne_eq, vcRet, resAll, resA, retOf, Int.reduceEq, Int.reduceNe, Int.reduceLT, Int.reduceLE, Int.reduceGT, Int.reduceGE, Int.reduceBEq, Int.reduceBNe, Nat.reduceLT, Nat.reduceLeDiff, Nat.reduceAdd, Nat.reduceSub, Nat.reduceMul, Nat.reduceEqDiff, Nat.reduceBEq, Nat.reduceBNe, reduceCtorEq, Int.reduceNeg]
  first | refine vcIf.dec (fun h2 => ?_) (fun h2 => ?_) | refine vcQIf.dec (fun h2 => ?_) (fun h2 => ?_)
  · obtain ⟨h3, h4⟩ := onb_step h2
    have hb' := onb_le (m + 1)
    have e1 : IntKind.i64.wrap (m + 1) = m + 1 := w64 (by omega) (by omega)
    simp only [↓RP, RQ, if_true, if_false, cond_true, cond_false, vcBin, bne, ne_eq, vcRet, resAll, resA, retOf, Int.reduceEq, Int.reduceNe, Int.reduceLT, Int.reduceLE, Int.reduceGT, Int.reduceGE, Int.reduceBEq, Int.reduceBNe, Nat.reduceLT, Nat.reduceLeDiff, Nat.reduceAdd, Nat.reduceSub, Nat.reduceMul, Nat.reduceEqDiff, Nat.reduceBEq, Nat.reduceBNe, reduceCtorEq, Int.reduceNeg, h2, e1]
    exact ⟨m + 1, h4, ⟨by omega, by omega, by omega⟩, by simp only [↓RP, RQ, if_true, if_false, cond_true, cond_false, vcBin, bne, ne_eq, vcRet, resAll, resA, retOf, Int.reduceEq, Int.reduceNe, Int.reduceLT, Int.reduceLE, Int.reduceGT, Int.reduceGE, Int.reduceBEq, Int.reduceBNe, Nat.reduceLT, Nat.reduceLeDiff, Nat.reduceAdd, Nat.reduceSub, Nat.reduceMul, Nat.reduceEqDiff, Nat.reduceBEq, Nat.reduceBNe, reduceCtorEq, Int.reduceNeg]⟩
  · have h3 := onb_stop h2
    simp only [↓RP, RQ, if_true, if_false, cond_true, cond_false, vcBin, bne, ne_eq, vcRet, resAll, resA, retOf, Int.reduceEq, Int.reduceNe, Int.reduceLT, Int.reduceLE, Int.reduceGT, Int.reduceGE, Int.reduceBEq, Int.reduceBNe, Nat.reduceLT, Nat.reduceLeDiff, Nat.reduceAdd, Nat.reduceSub, Nat.reduceMul, Nat.reduceEqDiff, Nat.reduceBEq, Nat.reduceBNe, reduceCtorEq, Int.reduceNeg, h2, hg, h3]
theorem s123 (N : Nat) (n d : Int) (h0 : 0 ≤ n) (h1 : n ≤ 100000) (hd0 : 0 ≤ d) (hd1 : d ≤ 1000) : Runs Try.prog 123 [.v (.int .i64 n), .v (.int .i64 d)] (emp N) fun r H' => r = .v (.int .i64 (bus n d)) ∧ H' = emp N := by
  obtain ⟨k, rfl⟩ : ∃ k : Nat, d = k := ⟨d.toNat, by omega⟩
  have hb := onb_le n
  refine C123_fn ?_
  unfold C123
  simp only [↓RP, RQ, if_true, if_false, cond_true, cond_false, vcBin, bne, ne_eq, vcRet, resAll, resA, retOf, Int.reduceEq, Int.reduceNe, Int.reduceLT, Int.reduceLE, Int.reduceGT, Int.reduceGE, Int.reduceBEq, Int.reduceBNe, Nat.reduceLT, Nat.reduceLeDiff, Nat.reduceAdd, Nat.reduceSub, Nat.reduceMul, Nat.reduceEqDiff, Nat.reduceBEq, Nat.reduceBNe, reduceCtorEq, Int.reduceNeg]
  first | refine vcCall.same (s150 N n (by omega) (by omega)) ?_ | refine vcQCall.same (s150 N n (by omega) (by omega)) ?_
  simp only [↓RP, RQ, if_true, if_false, cond_true, cond_false, vcBin, bne, ne_eq, vcRet, resAll, resA, retOf, Int.reduceEq, Int.reduceNe, Int.reduceLT, Int.reduceLE, Int.reduceGT, Int.reduceGE, Int.reduceBEq, Int.reduceBNe, Nat.reduceLT, Nat.reduceLeDiff, Nat.reduceAdd, Nat.reduceSub, Nat.reduceMul, Nat.reduceEqDiff, Nat.reduceBEq, Nat.reduceBNe, reduceCtorEq, Int.reduceNeg]
  refine vcLoop.st (σ := Nat × Int) (0, onb n) (fun s => s.1 ≤ k ∧ 0 ≤ s.2 ∧ s.2 + 3 * (k - s.1 : Nat) ≤ 200000 ∧ bus n k = busI (k - s.1) s.2) (fun s => k - s.1) (fun _ => hl N []) (fun s => [.v (.int .i64 s.2), .any, .any, .any, .any, .any, .any, .v (.int .i64 (k : Nat)), .v (.int .i64 s.1), .any, .any, .any, .any, .any, .any]) ⟨Nat.zero_le _, by show 0 ≤ onb n; omega, by show onb n + 3 * (k - 0 : Nat) ≤ 200000; omega, rfl⟩ (Dr.refl _) (by simp only [↓RP, RQ, if_true, if_false, cond_true, cond_false, vcBin, bne, ne_eq, vcRet, resAll, resA, retOf, Int.reduceEq, Int.reduceNe, Int.reduceLT, Int.reduceLE, Int.reduceGT, Int.reduceGE, Int.reduceBEq, Int.reduceBNe, Nat.reduceLT, Nat.reduceLeDiff, Nat.reduceAdd, Nat.reduceSub, Nat.reduceMul, Nat.reduceEqDiff, Nat.reduceBEq, Nat.reduceBNe, reduceCtorEq, Int.reduceNeg]) ?_
  rintro ⟨i, m⟩ ⟨hi, hm0, hm1, hg⟩
  replace hi : i ≤ k := hi
  replace hm0 : 0 ≤ m := hm0
  replace hm1 : m + 3 * (k - i : Nat) ≤ 200000 := hm1
  replace hg : bus n k = busI (k - i) m := hg
  simp only [↓RP, RQ, if_true, if_false, cond_true, cond_false, vcBin, bne, ne_eq, vcRet, resAll, resA, retOf, Int.reduceEq, Int.reduceNe, Int.reduceLT, Int.reduceLE, Int.reduceGT, Int.reduceGE, Int.reduceBEq, Int.reduceBNe, Nat.reduceLT, Nat.reduceLeDiff, Nat.reduceAdd, Nat.reduceSub, Nat.reduceMul, Nat.reduceEqDiff, Nat.reduceBEq, Nat.reduceBNe, reduceCtorEq, Int.reduceNeg]
  first | refine vcIf.dec (fun h2 => ?_) (fun h2 => ?_) | refine vcQIf.dec (fun h2 => ?_) (fun h2 => ?_)
  · have hlt : i < k := by simpa using h2
    have hk : k - i = (k - (i + 1)) + 1 := by omega
    have e1 : IntKind.i64.wrap (m + 1) = m + 1 := w64 (by omega) (by omega)
    have hb' := onb_le (m + 1)
    rw [hk, busI] at hg
    simp only [↓RP, RQ, if_true, if_false, cond_true, cond_false, vcBin, bne, ne_eq, vcRet, resAll, resA, retOf, Int.reduceEq, Int.reduceNe, Int.reduceLT, Int.reduceLE, Int.reduceGT, Int.reduceGE, Int.reduceBEq, Int.reduceBNe, Nat.reduceLT, Nat.reduceLeDiff, Nat.reduceAdd, Nat.reduceSub, Nat.reduceMul, Nat.reduceEqDiff, Nat.reduceBEq, Nat.reduceBNe, reduceCtorEq, Int.reduceNeg, h2, e1]
    first | refine vcCall.same (s150 N (m + 1) (by omega) (by omega)) ?_ | refine vcQCall.same (s150 N (m + 1) (by omega) (by omega)) ?_
    simp only [↓RP, RQ, if_true, if_false, cond_true, cond_false, vcBin, bne, ne_eq, vcRet, resAll, resA, retOf, Int.reduceEq, Int.reduceNe, Int.reduceLT, Int.reduceLE, Int.reduceGT, Int.reduceGE, Int.reduceBEq, Int.reduceBNe, Nat.reduceLT, Nat.reduceLeDiff, Nat.reduceAdd, Nat.reduceSub, Nat.reduceMul, Nat.reduceEqDiff, Nat.reduceBEq, Nat.reduceBNe, reduceCtorEq, Int.reduceNeg, w_succ (show i < 1000000 by omega) (by decide)]
    exact ⟨(i + 1, onb (m + 1)), by show k - (i + 1) < k - i; omega, ⟨hlt, by show 0 ≤ onb (m + 1); omega, by show onb (m + 1) + 3 * (k - (i + 1) : Nat) ≤ 200000; omega, hg⟩, by simp only [↓RP, RQ, if_true, if_false, cond_true, cond_false, vcBin, bne, ne_eq, vcRet, resAll, resA, retOf, Int.reduceEq, Int.reduceNe, Int.reduceLT, Int.reduceLE, Int.reduceGT, Int.reduceGE, Int.reduceBEq, Int.reduceBNe, Nat.reduceLT, Nat.reduceLeDiff, Nat.reduceAdd, Nat.reduceSub, Nat.reduceMul, Nat.reduceEqDiff, Nat.reduceBEq, Nat.reduceBNe, reduceCtorEq, Int.reduceNeg]⟩
  · have hge : i = k := by simp at h2; omega
    subst hge
    rw [Nat.sub_self, busI] at hg
    simp only [↓RP, RQ, if_true, if_false, cond_true, cond_false, vcBin, bne, ne_eq, vcRet, resAll, resA, retOf, Int.reduceEq, Int.reduceNe, Int.reduceLT, Int.reduceLE, Int.reduceGT, Int.reduceGE, Int.reduceBEq, Int.reduceBNe, Nat.reduceLT, Nat.reduceLeDiff, Nat.reduceAdd, Nat.reduceSub, Nat.reduceMul, Nat.reduceEqDiff, Nat.reduceBEq, Nat.reduceBNe, reduceCtorEq, Int.reduceNeg, h2, hg]
theorem s115 (N : Nat) (n d : Int) (h0 : 0 ≤ n) (h1 : n ≤ 100000) (hd0 : 0 ≤ d) (hd1 : d ≤ 1000) : Runs Try.prog 115 [.v (.int .i64 n), .v (.int .i64 d)] (emp N) fun r H' => r = .v (.int .i64 (bus n d)) ∧ H' = emp N := by
  obtain ⟨k, rfl⟩ : ∃ k : Nat, d = k := ⟨d.toNat, by omega⟩
  have hb := onb_le n
  refine C115_fn ?_
  unfold C115
  simp only [↓RP, RQ, if_true, if_false, cond_true, cond_false, vcBin, bne, ne_eq, vcRet, resAll, resA, retOf, Int.reduceEq, Int.reduceNe, Int.reduceLT, Int.reduceLE, Int.reduceGT, Int.reduceGE, Int.reduceBEq, Int.reduceBNe, Nat.reduceLT, Nat.reduceLeDiff, Nat.reduceAdd, Nat.reduceSub, Nat.reduceMul, Nat.reduceEqDiff, Nat.reduceBEq, Nat.reduceBNe, reduceCtorEq, Int.reduceNeg]
  refine vcLoop.st (σ := Int) n (fun m => n ≤ m ∧ m ≤ onb n ∧ onb n = onb m) wkd (fun _ => hl N []) (fun m => [.v (.int .i64 m), .v (.int .i64 (k : Nat)), .any, .any, .any, .any, .any, .any, .any, .any, .any, .any, .any, .any, .any, .any, .any, .any, .any, .any, .any, .any]) ⟨Int.le_refl _, (onb_le n).1, rfl⟩ (Dr.refl _) (by simp only [↓RP, RQ, if_true, if_false, cond_true, cond_false, vcBin, bne, ne_eq, vcRet, resAll, resA, retOf, Int.reduceEq, Int.reduceNe, Int.reduceLT, Int.reduceLE, Int.reduceGT, Int.reduceGE, Int.reduceBEq, Int.reduceBNe, Nat.reduceLT, Nat.reduceLeDiff, Nat.reduceAdd, Nat.reduceSub, Nat.reduceMul, Nat.reduceEqDiff, Nat.reduceBEq, Nat.reduceBNe, reduceCtorEq, Int.reduceNeg]) ?_
  rintro m ⟨hm1, hm2, hg⟩
  simp only [↓RP, RQ, if_true, if_false, cond_true, cond_false, vcBin, bne, ne_eq, vcRet, resAll, resA, retOf, Int.reduceEq, Int.reduceNe, Int.reduceLT, Int.reduceLE, Int.reduceGT, Int.reduceGE, Int.reduceBEq, Int.reduceBNe, Nat.reduceLT, Nat.reduceLeDiff, Nat.reduceAdd, Nat.reduceSub, Nat.reduceMul, Nat.reduceEqDiff, Nat.reduceBEq, Nat.reduceBNe, reduceCtorEq, Int.reduceNeg]
  first | refine vcCall.same (s144 N m (by omega) (by omega)) ?_ | refine vcQCall.same (s144 N m (by omega) (by omega)) ?_
  simp only [↓RP, RQ, if_true, if_false, cond_true, cond_false, vcBin, bne, ne_eq, vcRet, resAll, resA, retOf, Int.reduceEq, Int.reduceNe, Int.reduceLT, Int.reduceLE, Int.reduceGT, Int.reduceGE, Int.reduceBEq, Int.reduceBNe, Nat.reduceLT, Nat.reduceLeDiff, Nat.reduceAdd, Nat.reduceSub, Nat.reduceMul, Nat.reduceEqDiff, Nat.reduceBEq, Nat.reduceBNe, reduceCtorEq, Int.reduceNeg]
  first | refine vcIf.dec (fun h2 => ?_) (fun h2 => ?_) | refine vcQIf.dec (fun h2 => ?_) (fun h2 => ?_)
  · obtain ⟨h3, h4⟩ := onb_step h2
    have hb' := onb_le (m + 1)
    have e1 : IntKind.i64.wrap (m + 1) = m + 1 := w64 (by omega) (by omega)
    simp only [↓RP, RQ, if_true, if_false, cond_true, cond_false, vcBin, bne, ne_eq, vcRet, resAll, resA, retOf, Int.reduceEq, Int.reduceNe, Int.reduceLT, Int.reduceLE, Int.reduceGT, Int.reduceGE, Int.reduceBEq, Int.reduceBNe, Nat.reduceLT, Nat.reduceLeDiff, Nat.reduceAdd, Nat.reduceSub, Nat.reduceMul, Nat.reduceEqDiff, Nat.reduceBEq, Nat.reduceBNe, reduceCtorEq, Int.reduceNeg, h2, e1]
    exact ⟨m + 1, h4, ⟨by omega, by omega, by omega⟩, by simp only [↓RP, RQ, if_true, if_false, cond_true, cond_false, vcBin, bne, ne_eq, vcRet, resAll, resA, retOf, Int.reduceEq, Int.reduceNe, Int.reduceLT, Int.reduceLE, Int.reduceGT, Int.reduceGE, Int.reduceBEq, Int.reduceBNe, Nat.reduceLT, Nat.reduceLeDiff, Nat.reduceAdd, Nat.reduceSub, Nat.reduceMul, Nat.reduceEqDiff, Nat.reduceBEq, Nat.reduceBNe, reduceCtorEq, Int.reduceNeg]⟩
  · have h3 := onb_stop h2
    rw [h3] at hg
    simp only [↓RP, RQ, if_true, if_false, cond_true, cond_false, vcBin, bne, ne_eq, vcRet, resAll, resA, retOf, Int.reduceEq, Int.reduceNe, Int.reduceLT, Int.reduceLE, Int.reduceGT, Int.reduceGE, Int.reduceBEq, Int.reduceBNe, Nat.reduceLT, Nat.reduceLeDiff, Nat.reduceAdd, Nat.reduceSub, Nat.reduceMul, Nat.reduceEqDiff, Nat.reduceBEq, Nat.reduceBNe, reduceCtorEq, Int.reduceNeg, h2]
    refine vcLoop.st (σ := Nat × Int) (k, m) (fun s => 0 ≤ s.2 ∧ s.2 + 3 * (s.1 : Nat) ≤ 200000 ∧ s.1 ≤ 1000 ∧ bus n k = busI s.1 s.2) (fun s => s.1) (fun _ => hl N []) (fun s => [.v (.int .i64 s.2), .v (.int .i64 s.1), .any, .any, .any, .any, .any, .any, .any, .any, .any, .any, .any, .any, .any, .any, .any, .any, .any, .any, .any, .any]) ⟨by show 0 ≤ m; omega, by show m + 3 * (k : Nat) ≤ 200000; omega, by show k ≤ 1000; omega, by show busI k (onb n) = busI k m; rw [hg]⟩ (Dr.refl _) (by simp only [↓RP, RQ, if_true, if_false, cond_true, cond_false, vcBin, bne, ne_eq, vcRet, resAll, resA, retOf, Int.reduceEq, Int.reduceNe, Int.reduceLT, Int.reduceLE, Int.reduceGT, Int.reduceGE, Int.reduceBEq, Int.reduceBNe, Nat.reduceLT, Nat.reduceLeDiff, Nat.reduceAdd, Nat.reduceSub, Nat.reduceMul, Nat.reduceEqDiff, Nat.reduceBEq, Nat.reduceBNe, reduceCtorEq, Int.reduceNeg]) ?_
    rintro ⟨j, q⟩ ⟨hq0, hq1, hj, hgq⟩
    replace hq0 : 0 ≤ q := hq0
    replace hq1 : q + 3 * (j : Nat) ≤ 200000 := hq1
    replace hj : j ≤ 1000 := hj
    replace hgq : bus n k = busI j q := hgq
    simp only [↓RP, RQ, if_true, if_false, cond_true, cond_false, vcBin, bne, ne_eq, vcRet, resAll, resA, retOf, Int.reduceEq, Int.reduceNe, Int.reduceLT, Int.reduceLE, Int.reduceGT, Int.reduceGE, Int.reduceBEq, Int.reduceBNe, Nat.reduceLT, Nat.reduceLeDiff, Nat.reduceAdd, Nat.reduceSub, Nat.reduceMul, Nat.reduceEqDiff, Nat.reduceBEq, Nat.reduceBNe, reduceCtorEq, Int.reduceNeg]
    first | refine vcIf.dec (fun h5 => ?_) (fun h5 => ?_) | refine vcQIf.dec (fun h5 => ?_) (fun h5 => ?_)
    · have hj0 : 0 < j := by simpa using h5
      have hk : j = (j - 1) + 1 := by omega
      have e1 : IntKind.i64.wrap (q + 1) = q + 1 := w64 (by omega) (by omega)
      have hb' := onb_le (q + 1)
      rw [hk, busI] at hgq
      simp only [↓RP, RQ, if_true, if_false, cond_true, cond_false, vcBin, bne, ne_eq, vcRet, resAll, resA, retOf, Int.reduceEq, Int.reduceNe, Int.reduceLT, Int.reduceLE, Int.reduceGT, Int.reduceGE, Int.reduceBEq, Int.reduceBNe, Nat.reduceLT, Nat.reduceLeDiff, Nat.reduceAdd, Nat.reduceSub, Nat.reduceMul, Nat.reduceEqDiff, Nat.reduceBEq, Nat.reduceBNe, reduceCtorEq, Int.reduceNeg, h5, e1]
      refine vcLoop.st (σ := Int) (q + 1) (fun m => q + 1 ≤ m ∧ m ≤ onb (q + 1) ∧ onb (q + 1) = onb m) wkd (fun _ => hl N []) (fun m => [.v (.int .i64 m), .v (.int .i64 (j : Nat)), .any, .any, .any, .any, .any, .any, .any, .any, .any, .any, .any, .any, .any, .any, .any, .any, .any, .any, .any, .any]) ⟨Int.le_refl _, hb'.1, rfl⟩ (Dr.refl _) (by simp only [↓RP, RQ, if_true, if_false, cond_true, cond_false, vcBin, bne, ne_eq, vcRet, resAll, resA, retOf, Int.reduceEq, Int.reduceNe, Int.reduceLT, Int.reduceLE, Int.reduceGT, Int.reduceGE, Int.reduceBEq, Int.reduceBNe, Nat.reduceLT, Nat.reduceLeDiff, Nat.reduceAdd, Nat.reduceSub, Nat.reduceMul, Nat.reduceEqDiff, Nat.reduceBEq, Nat.reduceBNe, reduceCtorEq, Int.reduceNeg]) ?_
      rintro t ⟨ht1, ht2, hgt⟩
      simp only [↓RP, RQ, if_true, if_false, cond_true, cond_false, vcBin, bne, ne_eq, vcRet, resAll, resA, retOf, Int.reduceEq, Int.reduceNe, Int.reduceLT, Int.reduceLE, Int.reduceGT, Int.reduceGE, Int.reduceBEq, Int.reduceBNe, Nat.reduceLT, Nat.reduceLeDiff, Nat.reduceAdd, Nat.reduceSub, Nat.reduceMul, Nat.reduceEqDiff, Nat.reduceBEq, Nat.reduceBNe, reduceCtorEq, Int.reduceNeg]
      first | refine vcCall.same (s144 N t (by omega) (by omega)) ?_ | refine vcQCall.same (s144 N t (by omega) (by omega)) ?_
      simp only [↓RP, RQ, if_true, if_false, cond_true, cond_false, vcBin, bne, ne_eq, vcRet, resAll, resA, retOf, Int.reduceEq, Int.reduceNe, Int.reduceLT, Int.reduceLE, Int.reduceGT, Int.reduceGE, Int.reduceBEq, Int.reduceBNe, Nat.reduceLT, Nat.reduceLeDiff, Nat.reduceAdd, Nat.reduceSub, Nat.reduceMul, Nat.reduceEqDiff, Nat.reduceBEq, Nat.reduceBNe, reduceCtorEq, Int.reduceNeg]
      first | refine vcIf.dec (fun h6 => ?_) (fun h6 => ?_) | refine vcQIf.dec (fun h6 => ?_) (fun h6 => ?_)
      · obtain ⟨h7, h8⟩ := onb_step h6
        have hb'' := onb_le (t + 1)
        have e1 : IntKind.i64.wrap (t + 1) = t + 1 := w64 (by omega) (by omega)
        simp only [↓RP, RQ, if_true, if_false, cond_true, cond_false, vcBin, bne, ne_eq, vcRet, resAll, resA, retOf, Int.reduceEq, Int.reduceNe, Int.reduceLT, Int.reduceLE, Int.reduceGT, Int.reduceGE, Int.reduceBEq, Int.reduceBNe, Nat.reduceLT, Nat.reduceLeDiff, Nat.reduceAdd, Nat.reduceSub, Nat.reduceMul, Nat.reduceEqDiff, Nat.reduceBEq, Nat.reduceBNe, reduceCtorEq, Int.reduceNeg, h6, e1]
        exact ⟨t + 1, h8, ⟨by omega, by omega, by omega⟩, by simp only [↓RP, RQ, if_true, if_false, cond_true, cond_false, vcBin, bne, ne_eq, vcRet, resAll, resA, retOf, Int.reduceEq, Int.reduceNe, Int.reduceLT, Int.reduceLE, Int.reduceGT, Int.reduceGE, Int.reduceBEq, Int.reduceBNe, Nat.reduceLT, Nat.reduceLeDiff, Nat.reduceAdd, Nat.reduceSub, Nat.reduceMul, Nat.reduceEqDiff, Nat.reduceBEq, Nat.reduceBNe, reduceCtorEq, Int.reduceNeg]⟩
      · have h7 := onb_stop h6
        rw [h7] at hgt
        simp only [↓RP, RQ, if_true, if_false, cond_true, cond_false, vcBin, bne, ne_eq, vcRet, resAll, resA, retOf, Int.reduceEq, Int.reduceNe, Int.reduceLT, Int.reduceLE, Int.reduceGT, Int.reduceGE, Int.reduceBEq, Int.reduceBNe, Nat.reduceLT, Nat.reduceLeDiff, Nat.reduceAdd, Nat.reduceSub, Nat.reduceMul, Nat.reduceEqDiff, Nat.reduceBEq, Nat.reduceBNe, reduceCtorEq, Int.reduceNeg, h6, w_pred (show j < 1000000 by omega) hj0 (by decide)]
        exact ⟨(j - 1, t), by show j - 1 < j; omega, ⟨by show 0 ≤ t; omega, by show t + 3 * (j - 1 : Nat) ≤ 200000; omega, by show j - 1 ≤ 1000; omega, by show bus n k = busI (j - 1) t; rw [hgq, hgt]⟩, by simp only [↓RP, RQ, if_true, if_false, cond_true, cond_false, vcBin, bne, ne_eq, vcRet, resAll, resA, retOf, Int.reduceEq, Int.reduceNe, Int.reduceLT, Int.reduceLE, Int.reduceGT, Int.reduceGE, Int.reduceBEq, Int.reduceBNe, Nat.reduceLT, Nat.reduceLeDiff, Nat.reduceAdd, Nat.reduceSub, Nat.reduceMul, Nat.reduceEqDiff, Nat.reduceBEq, Nat.reduceBNe, reduceCtorEq, Int.reduceNeg]⟩
    · have hj0 : j = 0 := by simp at h5; omega
      subst hj0
      rw [busI] at hgq
      simp only [↓RP, RQ, if_true, if_false, cond_true, cond_false, vcBin, bne, ne_eq, vcRet, resAll, resA, retOf, Int.reduceEq, Int.reduceNe, Int.reduceLT, Int.reduceLE, Int.reduceGT, Int.reduceGE, Int.reduceBEq, Int.reduceBNe, Nat.reduceLT, Nat.reduceLeDiff, Nat.reduceAdd, Nat.reduceSub, Nat.reduceMul, Nat.reduceEqDiff, Nat.reduceBEq, Nat.reduceBNe, reduceCtorEq, Int.reduceNeg, h5, hgq]
theorem s72 (N : Nat) (n : Int) : Runs Try.prog 72 [.v (.int .i64 n)] (emp N) fun r H' => r = .v (.bool (inR n 0 36524)) ∧ H' = emp N := by
  refine C72_fn ?_
  unfold C72
  simp only [↓RP, RQ, if_true, if_false, cond_true, cond_false, vcBin, bne, ne_eq, vcRet, resAll, resA, retOf, Int.reduceEq, Int.reduceNe, Int.reduceLT, Int.reduceLE, Int.reduceGT, Int.reduceGE, Int.reduceBEq, Int.reduceBNe, Nat.reduceLT, Nat.reduceLeDiff, Nat.reduceAdd, Nat.reduceSub, Nat.reduceMul, Nat.reduceEqDiff, Nat.reduceBEq, Nat.reduceBNe, reduceCtorEq, Int.reduceNeg]
  first | refine vcCall.same (s73 N _ _ _) ?_ | refine vcQCall.same (s73 N _ _ _) ?_
  simp only [↓RP, RQ, if_true, if_false, cond_true, cond_false, vcBin, bne, ne_eq, vcRet, resAll, resA, retOf, Int.reduceEq, Int.reduceNe, Int.reduceLT, Int.reduceLE, Int.reduceGT, Int.reduceGE, Int.reduceBEq, Int.reduceBNe, Nat.reduceLT, Nat.reduceLeDiff, Nat.reduceAdd, Nat.reduceSub, Nat.reduceMul, Nat.reduceEqDiff, Nat.reduceBEq, Nat.reduceBNe, reduceCtorEq, Int.reduceNeg]
/-- The days of a month, and of the months before one. -/
def dIn (y m : Int) : Int := if m = 2 then (if Int.tmod y 4 = 0 then 29 else 28) else if m = 4 ∨ m = 6 ∨ m = 9 ∨ m = 11 then 30 else 31
def dSum (y : Int) : Nat → Nat → Int → Int
  | 0, _, n => n
  | k + 1, m, n => dSum y k (m + 1) (IntKind.i64.wrap (n + dIn y m))
theorem s162 (N : Nat) (y m : Int) : Runs Try.prog 162 [.v (.int .i64 y), .v (.int .i64 m)] (emp N) fun r H' => r = .v (.int .i64 (dIn y m)) ∧ H' = emp N := by
  have e4 : ((4 : Int) = 0) = False := by simp
  refine C162_fn ?_
  unfold C162
  simp only [↓RP, RQ, if_true, if_false, cond_true, cond_false, vcBin, bne, ne_eq, vcRet, resAll, resA, retOf, Int.reduceEq, Int.reduceNe, Int.reduceLT, Int.reduceLE, Int.reduceGT, Int.reduceGE, Int.reduceBEq, Int.reduceBNe, Nat.reduceLT, Nat.reduceLeDiff, Nat.reduceAdd, Nat.reduceSub, Nat.reduceMul, Nat.reduceEqDiff, Nat.reduceBEq, Nat.reduceBNe, reduceCtorEq, Int.reduceNeg, e4]
  first | refine vcIf.of (fun h1 => ?_) (fun h1 => ?_) | refine vcQIf.of (fun h1 => ?_) (fun h1 => ?_)
  · have h1' : m = 2 := by simpa using h1
    simp only [↓RP, RQ, if_true, if_false, cond_true, cond_false, vcBin, bne, ne_eq, vcRet, resAll, resA, retOf, Int.reduceEq, Int.reduceNe, Int.reduceLT, Int.reduceLE, Int.reduceGT, Int.reduceGE, Int.reduceBEq, Int.reduceBNe, Nat.reduceLT, Nat.reduceLeDiff, Nat.reduceAdd, Nat.reduceSub, Nat.reduceMul, Nat.reduceEqDiff, Nat.reduceBEq, Nat.reduceBNe, reduceCtorEq, Int.reduceNeg, h1, e4]
    first | refine vcIf.of (fun h2 => ?_) (fun h2 => ?_) | refine vcQIf.of (fun h2 => ?_) (fun h2 => ?_)
    · have h2' : Int.tmod y 4 = 0 := by simpa using h2
      simp only [↓RP, RQ, if_true, if_false, cond_true, cond_false, vcBin, bne, ne_eq, vcRet, resAll, resA, retOf, Int.reduceEq, Int.reduceNe, Int.reduceLT, Int.reduceLE, Int.reduceGT, Int.reduceGE, Int.reduceBEq, Int.reduceBNe, Nat.reduceLT, Nat.reduceLeDiff, Nat.reduceAdd, Nat.reduceSub, Nat.reduceMul, Nat.reduceEqDiff, Nat.reduceBEq, Nat.reduceBNe, reduceCtorEq, Int.reduceNeg, h1, h2, h1', dIn, h2']
    · have h2' : ¬ Int.tmod y 4 = 0 := by simpa using h2
      simp only [↓RP, RQ, if_true, if_false, cond_true, cond_false, vcBin, bne, ne_eq, vcRet, resAll, resA, retOf, Int.reduceEq, Int.reduceNe, Int.reduceLT, Int.reduceLE, Int.reduceGT, Int.reduceGE, Int.reduceBEq, Int.reduceBNe, Nat.reduceLT, Nat.reduceLeDiff, Nat.reduceAdd, Nat.reduceSub, Nat.reduceMul, Nat.reduceEqDiff, Nat.reduceBEq, Nat.reduceBNe, reduceCtorEq, Int.reduceNeg, h1, h2, h1', dIn, h2']
  · have h1' : ¬ m = 2 := by simpa using h1
    simp only [↓RP, RQ, if_true, if_false, cond_true, cond_false, vcBin, bne, ne_eq, vcRet, resAll, resA, retOf, Int.reduceEq, Int.reduceNe, Int.reduceLT, Int.reduceLE, Int.reduceGT, Int.reduceGE, Int.reduceBEq, Int.reduceBNe, Nat.reduceLT, Nat.reduceLeDiff, Nat.reduceAdd, Nat.reduceSub, Nat.reduceMul, Nat.reduceEqDiff, Nat.reduceBEq, Nat.reduceBNe, reduceCtorEq, Int.reduceNeg, h1]
    first | refine vcIf.of (fun h3 => ?_) (fun h3 => ?_) | refine vcQIf.of (fun h3 => ?_) (fun h3 => ?_)
    · have h3' : m = 4 := by simpa using h3
      subst h3'
      simp only [↓RP, RQ, if_true, if_false, cond_true, cond_false, vcBin, bne, ne_eq, vcRet, resAll, resA, retOf, Int.reduceEq, Int.reduceNe, Int.reduceLT, Int.reduceLE, Int.reduceGT, Int.reduceGE, Int.reduceBEq, Int.reduceBNe, Nat.reduceLT, Nat.reduceLeDiff, Nat.reduceAdd, Nat.reduceSub, Nat.reduceMul, Nat.reduceEqDiff, Nat.reduceBEq, Nat.reduceBNe, reduceCtorEq, Int.reduceNeg, h3, dIn]
    · have h3' : ¬ m = 4 := by simpa using h3
      simp only [↓RP, RQ, if_true, if_false, cond_true, cond_false, vcBin, bne, ne_eq, vcRet, resAll, resA, retOf, Int.reduceEq, Int.reduceNe, Int.reduceLT, Int.reduceLE, Int.reduceGT, Int.reduceGE, Int.reduceBEq, Int.reduceBNe, Nat.reduceLT, Nat.reduceLeDiff, Nat.reduceAdd, Nat.reduceSub, Nat.reduceMul, Nat.reduceEqDiff, Nat.reduceBEq, Nat.reduceBNe, reduceCtorEq, Int.reduceNeg, h1, h3]
      first | refine vcIf.of (fun h4 => ?_) (fun h4 => ?_) | refine vcQIf.of (fun h4 => ?_) (fun h4 => ?_)
      · have h4' : m = 6 := by simpa using h4
        subst h4'
        simp only [↓RP, RQ, if_true, if_false, cond_true, cond_false, vcBin, bne, ne_eq, vcRet, resAll, resA, retOf, Int.reduceEq, Int.reduceNe, Int.reduceLT, Int.reduceLE, Int.reduceGT, Int.reduceGE, Int.reduceBEq, Int.reduceBNe, Nat.reduceLT, Nat.reduceLeDiff, Nat.reduceAdd, Nat.reduceSub, Nat.reduceMul, Nat.reduceEqDiff, Nat.reduceBEq, Nat.reduceBNe, reduceCtorEq, Int.reduceNeg, h3, h4, dIn]
      · have h4' : ¬ m = 6 := by simpa using h4
        simp only [↓RP, RQ, if_true, if_false, cond_true, cond_false, vcBin, bne, ne_eq, vcRet, resAll, resA, retOf, Int.reduceEq, Int.reduceNe, Int.reduceLT, Int.reduceLE, Int.reduceGT, Int.reduceGE, Int.reduceBEq, Int.reduceBNe, Nat.reduceLT, Nat.reduceLeDiff, Nat.reduceAdd, Nat.reduceSub, Nat.reduceMul, Nat.reduceEqDiff, Nat.reduceBEq, Nat.reduceBNe, reduceCtorEq, Int.reduceNeg, h1, h3, h4]
        first | refine vcIf.of (fun h5 => ?_) (fun h5 => ?_) | refine vcQIf.of (fun h5 => ?_) (fun h5 => ?_)
        · have h5' : m = 9 := by simpa using h5
          subst h5'
          simp only [↓RP, RQ, if_true, if_false, cond_true, cond_false, vcBin, bne, ne_eq, vcRet, resAll, resA, retOf, Int.reduceEq, Int.reduceNe, Int.reduceLT, Int.reduceLE, Int.reduceGT, Int.reduceGE, Int.reduceBEq, Int.reduceBNe, Nat.reduceLT, Nat.reduceLeDiff, Nat.reduceAdd, Nat.reduceSub, Nat.reduceMul, Nat.reduceEqDiff, Nat.reduceBEq, Nat.reduceBNe, reduceCtorEq, Int.reduceNeg, h3, h4, h5, dIn]
        · have h5' : ¬ m = 9 := by simpa using h5
          simp only [↓RP, RQ, if_true, if_false, cond_true, cond_false, vcBin, bne, ne_eq, vcRet, resAll, resA, retOf, Int.reduceEq, Int.reduceNe, Int.reduceLT, Int.reduceLE, Int.reduceGT, Int.reduceGE, Int.reduceBEq, Int.reduceBNe, Nat.reduceLT, Nat.reduceLeDiff, Nat.reduceAdd, Nat.reduceSub, Nat.reduceMul, Nat.reduceEqDiff, Nat.reduceBEq, Nat.reduceBNe, reduceCtorEq, Int.reduceNeg, h1, h3, h4, h5]
          first | refine vcIf.of (fun h6 => ?_) (fun h6 => ?_) | refine vcQIf.of (fun h6 => ?_) (fun h6 => ?_)
          · have h6' : m = 11 := by simpa using h6
            subst h6'
            simp only [↓RP, RQ, if_true, if_false, cond_true, cond_false, vcBin, bne, ne_eq, vcRet, resAll, resA, retOf, Int.reduceEq, Int.reduceNe, Int.reduceLT, Int.reduceLE, Int.reduceGT, Int.reduceGE, Int.reduceBEq, Int.reduceBNe, Nat.reduceLT, Nat.reduceLeDiff, Nat.reduceAdd, Nat.reduceSub, Nat.reduceMul, Nat.reduceEqDiff, Nat.reduceBEq, Nat.reduceBNe, reduceCtorEq, Int.reduceNeg, h3, h4, h5, h6, dIn]
          · have h6' : ¬ m = 11 := by simpa using h6
            simp only [↓RP, RQ, if_true, if_false, cond_true, cond_false, vcBin, bne, ne_eq, vcRet, resAll, resA, retOf, Int.reduceEq, Int.reduceNe, Int.reduceLT, Int.reduceLE, Int.reduceGT, Int.reduceGE, Int.reduceBEq, Int.reduceBNe, Nat.reduceLT, Nat.reduceLeDiff, Nat.reduceAdd, Nat.reduceSub, Nat.reduceMul, Nat.reduceEqDiff, Nat.reduceBEq, Nat.reduceBNe, reduceCtorEq, Int.reduceNeg, h1, h3, h4, h5, h6, dIn, h1', h3', h4', h5', h6']
def dayN (y m d : Int) : Int := dSum y (m - 1).toNat 1 (IntKind.i64.wrap (IntKind.i64.wrap (IntKind.i64.wrap (IntKind.i64.wrap (365 * IntKind.i64.wrap (y - 1970)) + IntKind.i64.wrap (Int.tdiv (IntKind.i64.wrap (IntKind.i64.wrap (y - 1970) + 1)) 4)) + d) - 1))
theorem s147 (N : Nat) (y m d : Int) (h0 : 1 ≤ m) (h1 : m ≤ 12) : Runs Try.prog 147 [.agg [.v (.int .i64 y), .v (.int .i64 m), .v (.int .i64 d)]] (emp N) fun r H' => r = .v (.int .i64 (dayN y m d)) ∧ H' = emp N := by
  have e4 : ((4 : Int) = 0) = False := by simp
  refine Runs.fin0 (Q := fun r H' => r = .v (.int .i64 (dayN y m d))) ?_ (fun r H' h => by rw [h]; exact .same _ (.inl rfl)) (.v _)
  refine C147_fn ?_
  unfold C147
  simp only [↓RP, RQ, if_true, if_false, cond_true, cond_false, vcBin, bne, ne_eq, vcRet, resAll, resA, retOf, Int.reduceEq, Int.reduceNe, Int.reduceLT, Int.reduceLE, Int.reduceGT, Int.reduceGE, Int.reduceBEq, Int.reduceBNe, Nat.reduceLT, Nat.reduceLeDiff, Nat.reduceAdd, Nat.reduceSub, Nat.reduceMul, Nat.reduceEqDiff, Nat.reduceBEq, Nat.reduceBNe, reduceCtorEq, Int.reduceNeg, e4]
  obtain ⟨k, hk⟩ : ∃ k : Nat, m = k := ⟨m.toNat, by omega⟩
  subst hk
  have hdn : dayN y k d = dSum y (k - 1) 1 (IntKind.i64.wrap (IntKind.i64.wrap (IntKind.i64.wrap (IntKind.i64.wrap (365 * IntKind.i64.wrap (y - 1970)) + IntKind.i64.wrap (Int.tdiv (IntKind.i64.wrap (IntKind.i64.wrap (y - 1970) + 1)) 4)) + d) - 1)) := by
    unfold dayN; congr 1; omega
  generalize IntKind.i64.wrap (IntKind.i64.wrap (IntKind.i64.wrap (IntKind.i64.wrap (365 * IntKind.i64.wrap (y - 1970)) + IntKind.i64.wrap (Int.tdiv (IntKind.i64.wrap (IntKind.i64.wrap (y - 1970) + 1)) 4)) + d) - 1) = n0 at *
  refine vcLoop.st (σ := Nat × Int) (1, n0) (fun s => s.1 ≤ k ∧ dayN y k d = dSum y (k - s.1) s.1 s.2) (fun s => k - s.1) (fun _ => hl (N + 1) [(N, some ⟨3, [[.v (.int .i64 y), .v (.int .i64 (k : Nat)), .v (.int .i64 d)]]⟩)]) (fun s => [.any, .ptr N 0 0, .any, .any, .v (.int .i64 s.2), .v (.int .i64 s.1), .any, .any, .any, .any, .any, .any, .any, .any, .any, .any, .any, .any, .any, .any, .any, .any, .any, .any, .any, .any, .any, .any, .any, .any, .any, .any]) ⟨by show 1 ≤ k; omega, hdn⟩ (by simp only [↓RP, RQ, if_true, if_false, cond_true, cond_false, vcBin, bne, ne_eq, vcRet, resAll, resA, retOf, Int.reduceEq, Int.reduceNe, Int.reduceLT, Int.reduceLE, Int.reduceGT, Int.reduceGE, Int.reduceBEq, Int.reduceBNe, Nat.reduceLT, Nat.reduceLeDiff, Nat.reduceAdd, Nat.reduceSub, Nat.reduceMul, Nat.reduceEqDiff, Nat.reduceBEq, Nat.reduceBNe, reduceCtorEq, Int.reduceNeg]) (by simp only [↓RP, RQ, if_true, if_false, cond_true, cond_false, vcBin, bne, ne_eq, vcRet, resAll, resA, retOf, Int.reduceEq, Int.reduceNe, Int.reduceLT, Int.reduceLE, Int.reduceGT, Int.reduceGE, Int.reduceBEq, Int.reduceBNe, Nat.reduceLT, Nat.reduceLeDiff, Nat.reduceAdd, Nat.reduceSub, Nat.reduceMul, Nat.reduceEqDiff, Nat.reduceBEq, Nat.reduceBNe, reduceCtorEq, Int.reduceNeg, Int.natCast_one]) ?_
  rintro ⟨i, n⟩ ⟨hi, hg⟩
  replace hi : i ≤ k := hi
  replace hg : dayN y k d = dSum y (k - i) i n := hg
  simp only [↓RP, RQ, if_true, if_false, cond_true, cond_false, vcBin, bne, ne_eq, vcRet, resAll, resA, retOf, Int.reduceEq, Int.reduceNe, Int.reduceLT, Int.reduceLE, Int.reduceGT, Int.reduceGE, Int.reduceBEq, Int.reduceBNe, Nat.reduceLT, Nat.reduceLeDiff, Nat.reduceAdd, Nat.reduceSub, Nat.reduceMul, Nat.reduceEqDiff, Nat.reduceBEq, Nat.reduceBNe, reduceCtorEq, Int.reduceNeg]
  first | refine vcIf.dec (fun h2 => ?_) (fun h2 => ?_) | refine vcQIf.dec (fun h2 => ?_) (fun h2 => ?_)
  · have hlt : i < k := by simpa using h2
    rw [show k - i = (k - (i + 1)) + 1 by omega, dSum] at hg
    simp only [↓RP, RQ, if_true, if_false, cond_true, cond_false, vcBin, bne, ne_eq, vcRet, resAll, resA, retOf, Int.reduceEq, Int.reduceNe, Int.reduceLT, Int.reduceLE, Int.reduceGT, Int.reduceGE, Int.reduceBEq, Int.reduceBNe, Nat.reduceLT, Nat.reduceLeDiff, Nat.reduceAdd, Nat.reduceSub, Nat.reduceMul, Nat.reduceEqDiff, Nat.reduceBEq, Nat.reduceBNe, reduceCtorEq, Int.reduceNeg, h2]
    first | refine vcCall.same (Runs.pure (s162 _ y i) (Fzl.same _) (.v _)) ?_ | refine vcQCall.same (Runs.pure (s162 _ y i) (Fzl.same _) (.v _)) ?_
    simp only [↓RP, RQ, if_true, if_false, cond_true, cond_false, vcBin, bne, ne_eq, vcRet, resAll, resA, retOf, Int.reduceEq, Int.reduceNe, Int.reduceLT, Int.reduceLE, Int.reduceGT, Int.reduceGE, Int.reduceBEq, Int.reduceBNe, Nat.reduceLT, Nat.reduceLeDiff, Nat.reduceAdd, Nat.reduceSub, Nat.reduceMul, Nat.reduceEqDiff, Nat.reduceBEq, Nat.reduceBNe, reduceCtorEq, Int.reduceNeg, w_succ (show i < 1000000 by omega) (by decide)]
    exact ⟨(i + 1, IntKind.i64.wrap (n + dIn y i)), by show k - (i + 1) < k - i; omega, ⟨hlt, hg⟩, by simp only [↓RP, RQ, if_true, if_false, cond_true, cond_false, vcBin, bne, ne_eq, vcRet, resAll, resA, retOf, Int.reduceEq, Int.reduceNe, Int.reduceLT, Int.reduceLE, Int.reduceGT, Int.reduceGE, Int.reduceBEq, Int.reduceBNe, Nat.reduceLT, Nat.reduceLeDiff, Nat.reduceAdd, Nat.reduceSub, Nat.reduceMul, Nat.reduceEqDiff, Nat.reduceBEq, Nat.reduceBNe, reduceCtorEq, Int.reduceNeg]⟩
  · have hge : i = k := by simp at h2; omega
    subst hge
    rw [Nat.sub_self, dSum] at hg
    simp only [↓RP, RQ, if_true, if_false, cond_true, cond_false, vcBin, bne, ne_eq, vcRet, resAll, resA, retOf, Int.reduceEq, Int.reduceNe, Int.reduceLT, Int.reduceLE, Int.reduceGT, Int.reduceGE, Int.reduceBEq, Int.reduceBNe, Nat.reduceLT, Nat.reduceLeDiff, Nat.reduceAdd, Nat.reduceSub, Nat.reduceMul, Nat.reduceEqDiff, Nat.reduceBEq, Nat.reduceBNe, reduceCtorEq, Int.reduceNeg, h2, hg]
theorem last_day : dayN 2069 12 31 = 36524 := by decide +kernel
theorem s119 (N : Nat) (n : Int) : Runs Try.prog 119 [.v (.int .i64 n)] (emp N) fun r H' => r = .v (.bool (inR n 0 36524)) ∧ H' = emp N := by
  refine C119_fn ?_
  unfold C119
  simp only [↓RP, RQ, if_true, if_false, cond_true, cond_false, vcBin, bne, ne_eq, vcRet, resAll, resA, retOf, Int.reduceEq, Int.reduceNe, Int.reduceLT, Int.reduceLE, Int.reduceGT, Int.reduceGE, Int.reduceBEq, Int.reduceBNe, Nat.reduceLT, Nat.reduceLeDiff, Nat.reduceAdd, Nat.reduceSub, Nat.reduceMul, Nat.reduceEqDiff, Nat.reduceBEq, Nat.reduceBNe, reduceCtorEq, Int.reduceNeg, fillA]
  first | refine vcCall.same (s147 N 2069 12 31 (by decide) (by decide)) ?_ | refine vcQCall.same (s147 N 2069 12 31 (by decide) (by decide)) ?_
  simp only [↓RP, RQ, if_true, if_false, cond_true, cond_false, vcBin, bne, ne_eq, vcRet, resAll, resA, retOf, Int.reduceEq, Int.reduceNe, Int.reduceLT, Int.reduceLE, Int.reduceGT, Int.reduceGE, Int.reduceBEq, Int.reduceBNe, Nat.reduceLT, Nat.reduceLeDiff, Nat.reduceAdd, Nat.reduceSub, Nat.reduceMul, Nat.reduceEqDiff, Nat.reduceBEq, Nat.reduceBNe, reduceCtorEq, Int.reduceNeg, last_day]
  first | refine vcCall.same (s120 N _ _ _) ?_ | refine vcQCall.same (s120 N _ _ _) ?_
  simp only [↓RP, RQ, if_true, if_false, cond_true, cond_false, vcBin, bne, ne_eq, vcRet, resAll, resA, retOf, Int.reduceEq, Int.reduceNe, Int.reduceLT, Int.reduceLE, Int.reduceGT, Int.reduceGE, Int.reduceBEq, Int.reduceBNe, Nat.reduceLT, Nat.reduceLeDiff, Nat.reduceAdd, Nat.reduceSub, Nat.reduceMul, Nat.reduceEqDiff, Nat.reduceBEq, Nat.reduceBNe, reduceCtorEq, Int.reduceNeg]
end Go.Proofs.Ytpaflfaokgapgaa
