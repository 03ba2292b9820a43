/- Contracts about costs that are covered. -/
import Derived.Test.YtcbijbckbloadaaK3
import Derived.Test.YtcbijbckbloadaaK4
import Derived.Test.YtcbijbckbloadaaS7
import Derived.Test.YtcbijbckbloadaaS8
set_option linter.unusedVariables false
set_option linter.unusedSimpArgs false
namespace Go.Proofs.Ytcbijbckbloadaa
open Go.Abs
theorem s106 (N : Nat) (xs : List Clm) (hn : xs.length ≤ 1048576) (hx : ∀ x, x ∈ xs → x.ok) (n : Int) : Runs Try.prog 106 [.ro 5 (xs.map Clm.row), .v (.int .i64 n)] (emp N) fun r H' => r = .v (.int .i64 (bif areClm xs then (bif isAmt n then 0 else 2) else 1)) ∧ H' = emp N := by
  refine C106_fn ?_
  unfold C106
  simp only [↓RP, RQ, if_true, if_false, cond_true, cond_false, vcBin, bne, ne_eq, vcRet, resAll, resA, retOf, Int.reduceEq, Int.reduceNe, Int.reduceLT, Int.reduceLE, Int.reduceGT, Int.reduceGE, Int.reduceBEq, Int.reduceBNe, Nat.reduceLT, Nat.reduceLeDiff, Nat.reduceAdd, Nat.reduceSub, Nat.reduceMul, Nat.reduceEqDiff, Nat.reduceBEq, Nat.reduceBNe, reduceCtorEq, Int.reduceNeg]
  first | refine vcCall.same (s33 N xs hn hx) ?_ | refine vcQCall.same (s33 N xs hn hx) ?_
  simp only [↓RP, RQ, if_true, if_false, cond_true, cond_false, vcBin, bne, ne_eq, vcRet, resAll, resA, retOf, Int.reduceEq, Int.reduceNe, Int.reduceLT, Int.reduceLE, Int.reduceGT, Int.reduceGE, Int.reduceBEq, Int.reduceBNe, Nat.reduceLT, Nat.reduceLeDiff, Nat.reduceAdd, Nat.reduceSub, Nat.reduceMul, Nat.reduceEqDiff, Nat.reduceBEq, Nat.reduceBNe, reduceCtorEq, Int.reduceNeg]
  first | refine vcIf.of (fun h1 => ?_) (fun h1 => ?_) | refine vcQIf.of (fun h1 => ?_) (fun h1 => ?_)
  · have ha : areClm xs = true := h1
    simp only [↓RP, RQ, if_true, if_false, cond_true, cond_false, vcBin, bne, ne_eq, vcRet, resAll, resA, retOf, Int.reduceEq, Int.reduceNe, Int.reduceLT, Int.reduceLE, Int.reduceGT, Int.reduceGE, Int.reduceBEq, Int.reduceBNe, Nat.reduceLT, Nat.reduceLeDiff, Nat.reduceAdd, Nat.reduceSub, Nat.reduceMul, Nat.reduceEqDiff, Nat.reduceBEq, Nat.reduceBNe, reduceCtorEq, Int.reduceNeg, h1, ha]
    first | refine vcCall.same (s58 N n) ?_ | refine vcQCall.same (s58 N n) ?_
    simp only [↓RP, RQ, if_true, if_false, cond_true, cond_false, vcBin, bne, ne_eq, vcRet, resAll, resA, retOf, Int.reduceEq, Int.reduceNe, Int.reduceLT, Int.reduceLE, Int.reduceGT, Int.reduceGE, Int.reduceBEq, Int.reduceBNe, Nat.reduceLT, Nat.reduceLeDiff, Nat.reduceAdd, Nat.reduceSub, Nat.reduceMul, Nat.reduceEqDiff, Nat.reduceBEq, Nat.reduceBNe, reduceCtorEq, Int.reduceNeg]
    first | refine vcIf.of (fun h2 => ?_) (fun h2 => ?_) | refine vcQIf.of (fun h2 => ?_) (fun h2 => ?_)
    · simp only [↓RP, RQ, if_true, if_false, cond_true, cond_false, vcBin, bne, ne_eq, vcRet, resAll, resA, retOf, Int.reduceEq, Int.reduceNe, Int.reduceLT, Int.reduceLE, Int.reduceGT, Int.reduceGE, Int.reduceBEq, Int.reduceBNe, Nat.reduceLT, Nat.reduceLeDiff, Nat.reduceAdd, Nat.reduceSub, Nat.reduceMul, Nat.reduceEqDiff, Nat.reduceBEq, Nat.reduceBNe, reduceCtorEq, Int.reduceNeg, h2]
    · simp only [↓RP, RQ, if_true, if_false, cond_true, cond_false, vcBin, bne, ne_eq, vcRet, resAll, resA, retOf, Int.reduceEq, Int.reduceNe, Int.reduceLT, Int.reduceLE, Int.reduceGT, Int.reduceGE, Int.reduceBEq, Int.reduceBNe, Nat.reduceLT, Nat.reduceLeDiff, Nat.reduceAdd, Nat.reduceSub, Nat.reduceMul, Nat.reduceEqDiff, Nat.reduceBEq, Nat.reduceBNe, reduceCtorEq, Int.reduceNeg, h2]
  · have ha : areClm xs = false := h1
    simp only [↓RP, RQ, if_true, if_false, cond_true, cond_false, vcBin, bne, ne_eq, vcRet, resAll, resA, retOf, Int.reduceEq, Int.reduceNe, Int.reduceLT, Int.reduceLE, Int.reduceGT, Int.reduceGE, Int.reduceBEq, Int.reduceBNe, Nat.reduceLT, Nat.reduceLeDiff, Nat.reduceAdd, Nat.reduceSub, Nat.reduceMul, Nat.reduceEqDiff, Nat.reduceBEq, Nat.reduceBNe, reduceCtorEq, Int.reduceNeg, h1, ha]
theorem s107 (N : Nat) (xs : List Clm) (hn : xs.length ≤ 1048576) (hx : ∀ x, x ∈ xs → x.ok) (n : Int) : Runs Try.prog 107 [.ro 5 (xs.map Clm.row), .v (.int .i64 n)] (emp N) fun r H' => r = .v (.int .i64 (bif areClm xs then (bif isAmt n then 0 else 2) else 1)) ∧ H' = emp N := by
  refine C107_fn ?_
  unfold C107
  simp only [↓RP, RQ, if_true, if_false, cond_true, cond_false, vcBin, bne, ne_eq, vcRet, resAll, resA, retOf, Int.reduceEq, Int.reduceNe, Int.reduceLT, Int.reduceLE, Int.reduceGT, Int.reduceGE, Int.reduceBEq, Int.reduceBNe, Nat.reduceLT, Nat.reduceLeDiff, Nat.reduceAdd, Nat.reduceSub, Nat.reduceMul, Nat.reduceEqDiff, Nat.reduceBEq, Nat.reduceBNe, reduceCtorEq, Int.reduceNeg]
  first | refine vcCall.same (s35 N xs hn hx) ?_ | refine vcQCall.same (s35 N xs hn hx) ?_
  simp only [↓RP, RQ, if_true, if_false, cond_true, cond_false, vcBin, bne, ne_eq, vcRet, resAll, resA, retOf, Int.reduceEq, Int.reduceNe, Int.reduceLT, Int.reduceLE, Int.reduceGT, Int.reduceGE, Int.reduceBEq, Int.reduceBNe, Nat.reduceLT, Nat.reduceLeDiff, Nat.reduceAdd, Nat.reduceSub, Nat.reduceMul, Nat.reduceEqDiff, Nat.reduceBEq, Nat.reduceBNe, reduceCtorEq, Int.reduceNeg]
  first | refine vcIf.of (fun h1 => ?_) (fun h1 => ?_) | refine vcQIf.of (fun h1 => ?_) (fun h1 => ?_)
  · have ha : areClm xs = true := h1
    simp only [↓RP, RQ, if_true, if_false, cond_true, cond_false, vcBin, bne, ne_eq, vcRet, resAll, resA, retOf, Int.reduceEq, Int.reduceNe, Int.reduceLT, Int.reduceLE, Int.reduceGT, Int.reduceGE, Int.reduceBEq, Int.reduceBNe, Nat.reduceLT, Nat.reduceLeDiff, Nat.reduceAdd, Nat.reduceSub, Nat.reduceMul, Nat.reduceEqDiff, Nat.reduceBEq, Nat.reduceBNe, reduceCtorEq, Int.reduceNeg, h1, ha]
    first | refine vcCall.same (s60 N n) ?_ | refine vcQCall.same (s60 N n) ?_
    simp only [↓RP, RQ, if_true, if_false, cond_true, cond_false, vcBin, bne, ne_eq, vcRet, resAll, resA, retOf, Int.reduceEq, Int.reduceNe, Int.reduceLT, Int.reduceLE, Int.reduceGT, Int.reduceGE, Int.reduceBEq, Int.reduceBNe, Nat.reduceLT, Nat.reduceLeDiff, Nat.reduceAdd, Nat.reduceSub, Nat.reduceMul, Nat.reduceEqDiff, Nat.reduceBEq, Nat.reduceBNe, reduceCtorEq, Int.reduceNeg]
    first | refine vcIf.of (fun h2 => ?_) (fun h2 => ?_) | refine vcQIf.of (fun h2 => ?_) (fun h2 => ?_)
    · simp only [↓RP, RQ, if_true, if_false, cond_true, cond_false, vcBin, bne, ne_eq, vcRet, resAll, resA, retOf, Int.reduceEq, Int.reduceNe, Int.reduceLT, Int.reduceLE, Int.reduceGT, Int.reduceGE, Int.reduceBEq, Int.reduceBNe, Nat.reduceLT, Nat.reduceLeDiff, Nat.reduceAdd, Nat.reduceSub, Nat.reduceMul, Nat.reduceEqDiff, Nat.reduceBEq, Nat.reduceBNe, reduceCtorEq, Int.reduceNeg, h2]
    · simp only [↓RP, RQ, if_true, if_false, cond_true, cond_false, vcBin, bne, ne_eq, vcRet, resAll, resA, retOf, Int.reduceEq, Int.reduceNe, Int.reduceLT, Int.reduceLE, Int.reduceGT, Int.reduceGE, Int.reduceBEq, Int.reduceBNe, Nat.reduceLT, Nat.reduceLeDiff, Nat.reduceAdd, Nat.reduceSub, Nat.reduceMul, Nat.reduceEqDiff, Nat.reduceBEq, Nat.reduceBNe, reduceCtorEq, Int.reduceNeg, h2]
  · have ha : areClm xs = false := h1
    simp only [↓RP, RQ, if_true, if_false, cond_true, cond_false, vcBin, bne, ne_eq, vcRet, resAll, resA, retOf, Int.reduceEq, Int.reduceNe, Int.reduceLT, Int.reduceLE, Int.reduceGT, Int.reduceGE, Int.reduceBEq, Int.reduceBNe, Nat.reduceLT, Nat.reduceLeDiff, Nat.reduceAdd, Nat.reduceSub, Nat.reduceMul, Nat.reduceEqDiff, Nat.reduceBEq, Nat.reduceBNe, reduceCtorEq, Int.reduceNeg, h1, ha]
theorem s109 (N : Nat) (xs : List Clm) (hn : xs.length ≤ 1048576) : Runs Try.prog 109 [.ro 5 (xs.map Clm.row)] (emp N) fun r H' => r = .ro 1 ((xs.map Clm.costs).map int1) ∧ H' = emp N := by
  have hm : xs.length ≤ maxLen := by have : maxLen = 9223372036854775807 := rfl; omega
  refine Runs.fin0 (Q := fun r H' => ∃ b, r = .own b xs.length ∧ H'.m b = some ⟨1, (xs.map Clm.costs).map int1⟩) ?_ (fun r H' h => by obtain ⟨b, rfl, h⟩ := h; exact Fz.all h (by simp)) (noref_ro int1_nr _)
  refine C109_fn ?_
  unfold C109
  simp only [↓RP, RQ, if_true, if_false, cond_true, cond_false, vcBin, bne, ne_eq, vcRet, resAll, resA, retOf, Int.reduceEq, Int.reduceNe, Int.reduceLT, Int.reduceLE, Int.reduceGT, Int.reduceGE, Int.reduceBEq, Int.reduceBNe, Nat.reduceLT, Nat.reduceLeDiff, Nat.reduceAdd, Nat.reduceSub, Nat.reduceMul, Nat.reduceEqDiff, Nat.reduceBEq, Nat.reduceBNe, reduceCtorEq, Int.reduceNeg, len_map]
  refine vcLoop.st (σ := Nat × Nat × Nat) (0, N + 1, N) (fun s => s.1 ≤ xs.length ∧ s.2.2 < s.2.1) (fun s => xs.length - s.1) (fun s => hl s.2.1 [(s.2.2, some ⟨1, grow (fun x => int1 (Clm.costs x)) xs s.1⟩)])
    (fun s => [.ro 5 (xs.map Clm.row), .any, .any, .own s.2.2 s.1, .any, .any, .any, .ro 5 (xs.map Clm.row), .v (.int .i64 xs.length), .v (.int .i64 s.1), .any, .any, .any, .any, .any, .any, .any, .any, .any, .any]) ⟨Nat.zero_le _, Nat.lt_succ_self _⟩ (Dr.refl _) (by simp only [↓RP, RQ, if_true, if_false, cond_true, cond_false, vcBin, bne, ne_eq, vcRet, resAll, resA, retOf, Int.reduceEq, Int.reduceNe, Int.reduceLT, Int.reduceLE, Int.reduceGT, Int.reduceGE, Int.reduceBEq, Int.reduceBNe, Nat.reduceLT, Nat.reduceLeDiff, Nat.reduceAdd, Nat.reduceSub, Nat.reduceMul, Nat.reduceEqDiff, Nat.reduceBEq, Nat.reduceBNe, reduceCtorEq, Int.reduceNeg]) ?_
  rintro ⟨i, M, b⟩ ⟨hi, hb⟩
  simp only [↓RP, RQ, if_true, if_false, cond_true, cond_false, vcBin, bne, ne_eq, vcRet, resAll, resA, retOf, Int.reduceEq, Int.reduceNe, Int.reduceLT, Int.reduceLE, Int.reduceGT, Int.reduceGE, Int.reduceBEq, Int.reduceBNe, Nat.reduceLT, Nat.reduceLeDiff, Nat.reduceAdd, Nat.reduceSub, Nat.reduceMul, Nat.reduceEqDiff, Nat.reduceBEq, Nat.reduceBNe, reduceCtorEq, Int.reduceNeg, len_map]
  refine vcIf.dec (fun h' => ?_) (fun h' => ?_)
  · have hlt : i < xs.length := by simpa using h'
    obtain ⟨x, hx0, hx, hd⟩ := at_i Clm.row xs hlt
    have hgs := grow_step (fun x => int1 (Clm.costs x)) hx0
    rw [int1] at hgs
    have hb1 : (b = M + 1) = False := by simp only [eq_iff_iff, iff_false]; have : b < M := hb; omega
    simp only [↓RP, RQ, if_true, if_false, cond_true, cond_false, vcBin, bne, ne_eq, vcRet, resAll, resA, retOf, Int.reduceEq, Int.reduceNe, Int.reduceLT, Int.reduceLE, Int.reduceGT, Int.reduceGE, Int.reduceBEq, Int.reduceBNe, Nat.reduceLT, Nat.reduceLeDiff, Nat.reduceAdd, Nat.reduceSub, Nat.reduceMul, Nat.reduceEqDiff, Nat.reduceBEq, Nat.reduceBNe, reduceCtorEq, Int.reduceNeg, len_map, nn, tn, lt_cast hlt, hx, Clm.row, elems, ne_lt hb, ne_gt hb, hb1, grow_len (fun x => int1 (Clm.costs x)) hi, true_le]
    refine ⟨by omega, ?_⟩
    simp only [↓RP, RQ, if_true, if_false, cond_true, cond_false, vcBin, bne, ne_eq, vcRet, resAll, resA, retOf, Int.reduceEq, Int.reduceNe, Int.reduceLT, Int.reduceLE, Int.reduceGT, Int.reduceGE, Int.reduceBEq, Int.reduceBNe, Nat.reduceLT, Nat.reduceLeDiff, Nat.reduceAdd, Nat.reduceSub, Nat.reduceMul, Nat.reduceEqDiff, Nat.reduceBEq, Nat.reduceBNe, reduceCtorEq, Int.reduceNeg, w_succ hlt hm]
    refine ⟨(i + 1, M + 3, M + 2), by show xs.length - (i + 1) < xs.length - i; omega, ⟨hlt, by show M + 2 < M + 3; omega⟩, by simp only [↓RP, RQ, if_true, if_false, cond_true, cond_false, vcBin, bne, ne_eq, vcRet, resAll, resA, retOf, Int.reduceEq, Int.reduceNe, Int.reduceLT, Int.reduceLE, Int.reduceGT, Int.reduceGE, Int.reduceBEq, Int.reduceBNe, Nat.reduceLT, Nat.reduceLeDiff, Nat.reduceAdd, Nat.reduceSub, Nat.reduceMul, Nat.reduceEqDiff, Nat.reduceBEq, Nat.reduceBNe, reduceCtorEq, Int.reduceNeg, hgs], by simp only [↓RP, RQ, if_true, if_false, cond_true, cond_false, vcBin, bne, ne_eq, vcRet, resAll, resA, retOf, Int.reduceEq, Int.reduceNe, Int.reduceLT, Int.reduceLE, Int.reduceGT, Int.reduceGE, Int.reduceBEq, Int.reduceBNe, Nat.reduceLT, Nat.reduceLeDiff, Nat.reduceAdd, Nat.reduceSub, Nat.reduceMul, Nat.reduceEqDiff, Nat.reduceBEq, Nat.reduceBNe, reduceCtorEq, Int.reduceNeg]⟩
  · have hge : i = xs.length := by simp at h'; omega
    subst hge
    simp only [↓RP, RQ, if_true, if_false, cond_true, cond_false, vcBin, bne, ne_eq, vcRet, resAll, resA, retOf, Int.reduceEq, Int.reduceNe, Int.reduceLT, Int.reduceLE, Int.reduceGT, Int.reduceGE, Int.reduceBEq, Int.reduceBNe, Nat.reduceLT, Nat.reduceLeDiff, Nat.reduceAdd, Nat.reduceSub, Nat.reduceMul, Nat.reduceEqDiff, Nat.reduceBEq, Nat.reduceBNe, reduceCtorEq, Int.reduceNeg, grow_end]
    exact ⟨b, rfl, (look_same _ _ _).trans (by rw [List.map_map]; rfl)⟩
def covV (xs : List Clm) (f : Int) : Bool := (areClm xs && isAmt f) && decide (sumW (xs.map Clm.costs) ≤ f)
def clmCode (xs : List Clm) (f : Int) : Int := bif areClm xs then (bif isAmt f then 0 else 2) else 1
theorem s51 (N : Nat) (xs : List Clm) (hn : xs.length ≤ 1048576) (hx : ∀ x, x ∈ xs → x.ok) (f : Int) : Runs Try.prog 51 [.ro 5 (xs.map Clm.row), .v (.int .i64 f)] (emp N) fun r H' => r = .tup [.v (.bool (covV xs f)), .v (.int .i64 (clmCode xs f))] ∧ H' = emp N := by
  have hm : xs.length ≤ maxLen := by have : maxLen = 9223372036854775807 := rfl; omega
  refine C51_fn ?_
  unfold C51
  simp only [↓RP, RQ, if_true, if_false, cond_true, cond_false, vcBin, bne, ne_eq, vcRet, resAll, resA, retOf, Int.reduceEq, Int.reduceNe, Int.reduceLT, Int.reduceLE, Int.reduceGT, Int.reduceGE, Int.reduceBEq, Int.reduceBNe, Nat.reduceLT, Nat.reduceLeDiff, Nat.reduceAdd, Nat.reduceSub, Nat.reduceMul, Nat.reduceEqDiff, Nat.reduceBEq, Nat.reduceBNe, reduceCtorEq, Int.reduceNeg]
  first | refine vcCall.same (s106 N xs hn hx f) ?_ | refine vcQCall.same (s106 N xs hn hx f) ?_
  cases h1 : areClm xs with
  | false => simp only [↓RP, RQ, if_true, if_false, cond_true, cond_false, vcBin, bne, ne_eq, vcRet, resAll, resA, retOf, Int.reduceEq, Int.reduceNe, Int.reduceLT, Int.reduceLE, Int.reduceGT, Int.reduceGE, Int.reduceBEq, Int.reduceBNe, Nat.reduceLT, Nat.reduceLeDiff, Nat.reduceAdd, Nat.reduceSub, Nat.reduceMul, Nat.reduceEqDiff, Nat.reduceBEq, Nat.reduceBNe, reduceCtorEq, Int.reduceNeg, covV, clmCode, h1]
  | true =>
    cases h2 : isAmt f with
    | false => simp only [↓RP, RQ, if_true, if_false, cond_true, cond_false, vcBin, bne, ne_eq, vcRet, resAll, resA, retOf, Int.reduceEq, Int.reduceNe, Int.reduceLT, Int.reduceLE, Int.reduceGT, Int.reduceGE, Int.reduceBEq, Int.reduceBNe, Nat.reduceLT, Nat.reduceLeDiff, Nat.reduceAdd, Nat.reduceSub, Nat.reduceMul, Nat.reduceEqDiff, Nat.reduceBEq, Nat.reduceBNe, reduceCtorEq, Int.reduceNeg, covV, clmCode, h1, h2]
    | true =>
      simp only [↓RP, RQ, if_true, if_false, cond_true, cond_false, vcBin, bne, ne_eq, vcRet, resAll, resA, retOf, Int.reduceEq, Int.reduceNe, Int.reduceLT, Int.reduceLE, Int.reduceGT, Int.reduceGE, Int.reduceBEq, Int.reduceBNe, Nat.reduceLT, Nat.reduceLeDiff, Nat.reduceAdd, Nat.reduceSub, Nat.reduceMul, Nat.reduceEqDiff, Nat.reduceBEq, Nat.reduceBNe, reduceCtorEq, Int.reduceNeg]
      refine vcLoop.st (σ := Nat × Int) (0, 0) (fun s => s.1 ≤ xs.length ∧ sumW (xs.map Clm.costs) = ((xs.drop s.1).map Clm.costs).foldl (fun a n => IntKind.i64.wrap (a + n)) s.2) (fun s => xs.length - s.1) (fun s => hl N [])
        (fun s => [.ro 5 (xs.map Clm.row), .v (.int .i64 f), .any, .any, .any, .any, .any, .v (.int .i64 s.2), .v (.int .i64 s.1), .any, .any, .any, .any, .any, .any, .any, .any, .any, .any, .any, .any, .any, .any, .any, .any, .any, .any, .any, .any, .any, .any]) ⟨Nat.zero_le _, rfl⟩ (Dr.refl _) (by simp only [↓RP, RQ, if_true, if_false, cond_true, cond_false, vcBin, bne, ne_eq, vcRet, resAll, resA, retOf, Int.reduceEq, Int.reduceNe, Int.reduceLT, Int.reduceLE, Int.reduceGT, Int.reduceGE, Int.reduceBEq, Int.reduceBNe, Nat.reduceLT, Nat.reduceLeDiff, Nat.reduceAdd, Nat.reduceSub, Nat.reduceMul, Nat.reduceEqDiff, Nat.reduceBEq, Nat.reduceBNe, reduceCtorEq, Int.reduceNeg]) ?_
      rintro ⟨i, a⟩ ⟨hi, hg⟩
      simp only [↓RP, RQ, if_true, if_false, cond_true, cond_false, vcBin, bne, ne_eq, vcRet, resAll, resA, retOf, Int.reduceEq, Int.reduceNe, Int.reduceLT, Int.reduceLE, Int.reduceGT, Int.reduceGE, Int.reduceBEq, Int.reduceBNe, Nat.reduceLT, Nat.reduceLeDiff, Nat.reduceAdd, Nat.reduceSub, Nat.reduceMul, Nat.reduceEqDiff, Nat.reduceBEq, Nat.reduceBNe, reduceCtorEq, Int.reduceNeg, len_map]
      refine vcIf.dec (fun h' => ?_) (fun h' => ?_)
      · have hlt : i < xs.length := by simpa using h'
        obtain ⟨x, hx0, hx, hd⟩ := at_i Clm.row xs hlt
        rw [hd, List.map_cons, List.foldl_cons] at hg
        simp only [↓RP, RQ, if_true, if_false, cond_true, cond_false, vcBin, bne, ne_eq, vcRet, resAll, resA, retOf, Int.reduceEq, Int.reduceNe, Int.reduceLT, Int.reduceLE, Int.reduceGT, Int.reduceGE, Int.reduceBEq, Int.reduceBNe, Nat.reduceLT, Nat.reduceLeDiff, Nat.reduceAdd, Nat.reduceSub, Nat.reduceMul, Nat.reduceEqDiff, Nat.reduceBEq, Nat.reduceBNe, reduceCtorEq, Int.reduceNeg, len_map, nn, tn, lt_cast hlt, hx, Clm.row, w_succ hlt hm]
        exact ⟨(i + 1, IntKind.i64.wrap (a + x.costs)), by show xs.length - (i + 1) < xs.length - i; omega, ⟨hlt, hg⟩, by simp only [↓RP, RQ, if_true, if_false, cond_true, cond_false, vcBin, bne, ne_eq, vcRet, resAll, resA, retOf, Int.reduceEq, Int.reduceNe, Int.reduceLT, Int.reduceLE, Int.reduceGT, Int.reduceGE, Int.reduceBEq, Int.reduceBNe, Nat.reduceLT, Nat.reduceLeDiff, Nat.reduceAdd, Nat.reduceSub, Nat.reduceMul, Nat.reduceEqDiff, Nat.reduceBEq, Nat.reduceBNe, reduceCtorEq, Int.reduceNeg]⟩
      · have hge : i = xs.length := by simp at h'; omega
        subst hge
        rw [List.drop_length, List.map_nil, List.foldl_nil] at hg
        simp only [↓RP, RQ, if_true, if_false, cond_true, cond_false, vcBin, bne, ne_eq, vcRet, resAll, resA, retOf, Int.reduceEq, Int.reduceNe, Int.reduceLT, Int.reduceLE, Int.reduceGT, Int.reduceGE, Int.reduceBEq, Int.reduceBNe, Nat.reduceLT, Nat.reduceLeDiff, Nat.reduceAdd, Nat.reduceSub, Nat.reduceMul, Nat.reduceEqDiff, Nat.reduceBEq, Nat.reduceBNe, reduceCtorEq, Int.reduceNeg, covV, clmCode, h1, h2, hg]
theorem s52 (N : Nat) (xs : List Clm) (hn : xs.length ≤ 1048576) (hx : ∀ x, x ∈ xs → x.ok) (f : Int) : Runs Try.prog 52 [.ro 5 (xs.map Clm.row), .v (.int .i64 f)] (emp N) fun r H' => r = .tup [.v (.bool (covV xs f)), .v (.int .i64 (clmCode xs f))] ∧ H' = emp N := by
  refine C52_fn ?_
  unfold C52
  simp only [↓RP, RQ, if_true, if_false, cond_true, cond_false, vcBin, bne, ne_eq, vcRet, resAll, resA, retOf, Int.reduceEq, Int.reduceNe, Int.reduceLT, Int.reduceLE, Int.reduceGT, Int.reduceGE, Int.reduceBEq, Int.reduceBNe, Nat.reduceLT, Nat.reduceLeDiff, Nat.reduceAdd, Nat.reduceSub, Nat.reduceMul, Nat.reduceEqDiff, Nat.reduceBEq, Nat.reduceBNe, reduceCtorEq, Int.reduceNeg]
  first | refine vcCall.same (s107 N xs hn hx f) ?_ | refine vcQCall.same (s107 N xs hn hx f) ?_
  cases h1 : areClm xs with
  | false => simp only [↓RP, RQ, if_true, if_false, cond_true, cond_false, vcBin, bne, ne_eq, vcRet, resAll, resA, retOf, Int.reduceEq, Int.reduceNe, Int.reduceLT, Int.reduceLE, Int.reduceGT, Int.reduceGE, Int.reduceBEq, Int.reduceBNe, Nat.reduceLT, Nat.reduceLeDiff, Nat.reduceAdd, Nat.reduceSub, Nat.reduceMul, Nat.reduceEqDiff, Nat.reduceBEq, Nat.reduceBNe, reduceCtorEq, Int.reduceNeg, covV, clmCode, h1]
  | true =>
    cases h2 : isAmt f with
    | false => simp only [↓RP, RQ, if_true, if_false, cond_true, cond_false, vcBin, bne, ne_eq, vcRet, resAll, resA, retOf, Int.reduceEq, Int.reduceNe, Int.reduceLT, Int.reduceLE, Int.reduceGT, Int.reduceGE, Int.reduceBEq, Int.reduceBNe, Nat.reduceLT, Nat.reduceLeDiff, Nat.reduceAdd, Nat.reduceSub, Nat.reduceMul, Nat.reduceEqDiff, Nat.reduceBEq, Nat.reduceBNe, reduceCtorEq, Int.reduceNeg, covV, clmCode, h1, h2]
    | true =>
      simp only [↓RP, RQ, if_true, if_false, cond_true, cond_false, vcBin, bne, ne_eq, vcRet, resAll, resA, retOf, Int.reduceEq, Int.reduceNe, Int.reduceLT, Int.reduceLE, Int.reduceGT, Int.reduceGE, Int.reduceBEq, Int.reduceBNe, Nat.reduceLT, Nat.reduceLeDiff, Nat.reduceAdd, Nat.reduceSub, Nat.reduceMul, Nat.reduceEqDiff, Nat.reduceBEq, Nat.reduceBNe, reduceCtorEq, Int.reduceNeg]
      first | refine vcCall.same (s109 N xs hn) ?_ | refine vcQCall.same (s109 N xs hn) ?_
      simp only [↓RP, RQ, if_true, if_false, cond_true, cond_false, vcBin, bne, ne_eq, vcRet, resAll, resA, retOf, Int.reduceEq, Int.reduceNe, Int.reduceLT, Int.reduceLE, Int.reduceGT, Int.reduceGE, Int.reduceBEq, Int.reduceBNe, Nat.reduceLT, Nat.reduceLeDiff, Nat.reduceAdd, Nat.reduceSub, Nat.reduceMul, Nat.reduceEqDiff, Nat.reduceBEq, Nat.reduceBNe, reduceCtorEq, Int.reduceNeg]
      first | refine vcCall.same (s108 N (xs.map Clm.costs) (by simpa using hn)) ?_ | refine vcQCall.same (s108 N (xs.map Clm.costs) (by simpa using hn)) ?_
      simp only [↓RP, RQ, if_true, if_false, cond_true, cond_false, vcBin, bne, ne_eq, vcRet, resAll, resA, retOf, Int.reduceEq, Int.reduceNe, Int.reduceLT, Int.reduceLE, Int.reduceGT, Int.reduceGE, Int.reduceBEq, Int.reduceBNe, Nat.reduceLT, Nat.reduceLeDiff, Nat.reduceAdd, Nat.reduceSub, Nat.reduceMul, Nat.reduceEqDiff, Nat.reduceBEq, Nat.reduceBNe, reduceCtorEq, Int.reduceNeg, covV, clmCode, h1, h2, ge_iff_le]
theorem lawFnExactCostsCovered (N : Nat) {a0 a1 : AV} (h0 : LeafOk (.sl [.str, .int .i64, .int .i64, .int .i64, .int .i64]) a0) (h1 : LeafOk (.int .i64) a1) : Runs Try.prog 13 [a0, a1] (emp N) fun r H' => r = .v (.bool true) ∧ H' = emp N := by
  obtain ⟨xs, rfl, hm, hw⟩ := rows_of Clm.of h0
  obtain ⟨f, rfl, _⟩ := leaf_int h1
  refine C13_fn ?_
  unfold C13
  simp only [↓RP, RQ, if_true, if_false, cond_true, cond_false, vcBin, bne, ne_eq, vcRet, resAll, resA, retOf, Int.reduceEq, Int.reduceNe, Int.reduceLT, Int.reduceLE, Int.reduceGT, Int.reduceGE, Int.reduceBEq, Int.reduceBNe, Nat.reduceLT, Nat.reduceLeDiff, Nat.reduceAdd, Nat.reduceSub, Nat.reduceMul, Nat.reduceEqDiff, Nat.reduceBEq, Nat.reduceBNe, reduceCtorEq, Int.reduceNeg]
  first | refine vcCall.same (s32 N xs _ hm) ?_ | refine vcQCall.same (s32 N xs _ hm) ?_
  simp only [↓RP, RQ, if_true, if_false, cond_true, cond_false, vcBin, bne, ne_eq, vcRet, resAll, resA, retOf, Int.reduceEq, Int.reduceNe, Int.reduceLT, Int.reduceLE, Int.reduceGT, Int.reduceGE, Int.reduceBEq, Int.reduceBNe, Nat.reduceLT, Nat.reduceLeDiff, Nat.reduceAdd, Nat.reduceSub, Nat.reduceMul, Nat.reduceEqDiff, Nat.reduceBEq, Nat.reduceBNe, reduceCtorEq, Int.reduceNeg]
  first | refine vcIf.dec (fun h => ?_) (fun h => ?_) | refine vcQIf.dec (fun h => ?_) (fun h => ?_)
  · simp only [↓RP, RQ, if_true, if_false, cond_true, cond_false, vcBin, bne, ne_eq, vcRet, resAll, resA, retOf, Int.reduceEq, Int.reduceNe, Int.reduceLT, Int.reduceLE, Int.reduceGT, Int.reduceGE, Int.reduceBEq, Int.reduceBNe, Nat.reduceLT, Nat.reduceLeDiff, Nat.reduceAdd, Nat.reduceSub, Nat.reduceMul, Nat.reduceEqDiff, Nat.reduceBEq, Nat.reduceBNe, reduceCtorEq, Int.reduceNeg, h]
  · obtain ⟨hn, hx, _⟩ := szS_fit Clm.fit hw hm (by decide) (by decide) (Int.not_lt.1 h)
    simp only [↓RP, RQ, if_true, if_false, cond_true, cond_false, vcBin, bne, ne_eq, vcRet, resAll, resA, retOf, Int.reduceEq, Int.reduceNe, Int.reduceLT, Int.reduceLE, Int.reduceGT, Int.reduceGE, Int.reduceBEq, Int.reduceBNe, Nat.reduceLT, Nat.reduceLeDiff, Nat.reduceAdd, Nat.reduceSub, Nat.reduceMul, Nat.reduceEqDiff, Nat.reduceBEq, Nat.reduceBNe, reduceCtorEq, Int.reduceNeg, h]
    first | refine vcCall.same (s34 N xs hn) ?_ | refine vcQCall.same (s34 N xs hn) ?_
    simp only [↓RP, RQ, if_true, if_false, cond_true, cond_false, vcBin, bne, ne_eq, vcRet, resAll, resA, retOf, Int.reduceEq, Int.reduceNe, Int.reduceLT, Int.reduceLE, Int.reduceGT, Int.reduceGE, Int.reduceBEq, Int.reduceBNe, Nat.reduceLT, Nat.reduceLeDiff, Nat.reduceAdd, Nat.reduceSub, Nat.reduceMul, Nat.reduceEqDiff, Nat.reduceBEq, Nat.reduceBNe, reduceCtorEq, Int.reduceNeg]
    first | refine vcCall.same (s51 N xs hn hx f) ?_ | refine vcQCall.same (s51 N xs hn hx f) ?_
    simp only [↓RP, RQ, if_true, if_false, cond_true, cond_false, vcBin, bne, ne_eq, vcRet, resAll, resA, retOf, Int.reduceEq, Int.reduceNe, Int.reduceLT, Int.reduceLE, Int.reduceGT, Int.reduceGE, Int.reduceBEq, Int.reduceBNe, Nat.reduceLT, Nat.reduceLeDiff, Nat.reduceAdd, Nat.reduceSub, Nat.reduceMul, Nat.reduceEqDiff, Nat.reduceBEq, Nat.reduceBNe, reduceCtorEq, Int.reduceNeg]
    first | refine vcCall.same (s34 N xs hn) ?_ | refine vcQCall.same (s34 N xs hn) ?_
    simp only [↓RP, RQ, if_true, if_false, cond_true, cond_false, vcBin, bne, ne_eq, vcRet, resAll, resA, retOf, Int.reduceEq, Int.reduceNe, Int.reduceLT, Int.reduceLE, Int.reduceGT, Int.reduceGE, Int.reduceBEq, Int.reduceBNe, Nat.reduceLT, Nat.reduceLeDiff, Nat.reduceAdd, Nat.reduceSub, Nat.reduceMul, Nat.reduceEqDiff, Nat.reduceBEq, Nat.reduceBNe, reduceCtorEq, Int.reduceNeg]
    first | refine vcCall.same (s52 N xs hn hx f) ?_ | refine vcQCall.same (s52 N xs hn hx f) ?_
    simp only [↓RP, RQ, if_true, if_false, cond_true, cond_false, vcBin, bne, ne_eq, vcRet, resAll, resA, retOf, Int.reduceEq, Int.reduceNe, Int.reduceLT, Int.reduceLE, Int.reduceGT, Int.reduceGE, Int.reduceBEq, Int.reduceBNe, Nat.reduceLT, Nat.reduceLeDiff, Nat.reduceAdd, Nat.reduceSub, Nat.reduceMul, Nat.reduceEqDiff, Nat.reduceBEq, Nat.reduceBNe, reduceCtorEq, Int.reduceNeg, int_refl, boo_refl]
    first | refine vcCall.same (s34 N xs hn) ?_ | refine vcQCall.same (s34 N xs hn) ?_
    simp only [↓RP, RQ, if_true, if_false, cond_true, cond_false, vcBin, bne, ne_eq, vcRet, resAll, resA, retOf, Int.reduceEq, Int.reduceNe, Int.reduceLT, Int.reduceLE, Int.reduceGT, Int.reduceGE, Int.reduceBEq, Int.reduceBNe, Nat.reduceLT, Nat.reduceLeDiff, Nat.reduceAdd, Nat.reduceSub, Nat.reduceMul, Nat.reduceEqDiff, Nat.reduceBEq, Nat.reduceBNe, reduceCtorEq, Int.reduceNeg]
    first | refine vcCall.same (s36 N xs hn) ?_ | refine vcQCall.same (s36 N xs hn) ?_
    simp only [↓RP, RQ, if_true, if_false, cond_true, cond_false, vcBin, bne, ne_eq, vcRet, resAll, resA, retOf, Int.reduceEq, Int.reduceNe, Int.reduceLT, Int.reduceLE, Int.reduceGT, Int.reduceGE, Int.reduceBEq, Int.reduceBNe, Nat.reduceLT, Nat.reduceLeDiff, Nat.reduceAdd, Nat.reduceSub, Nat.reduceMul, Nat.reduceEqDiff, Nat.reduceBEq, Nat.reduceBNe, reduceCtorEq, Int.reduceNeg]
end Go.Proofs.Ytcbijbckbloadaa
