/- Contracts about sums, and about what is asked by rank. -/
import Derived.Test.YtcbijbckbloadaaK3
import Derived.Test.YtcbijbckbloadaaS4
set_option linter.unusedVariables false
set_option linter.unusedSimpArgs false
namespace Go.Proofs.Ytcbijbckbloadaa
open Go.Abs
theorem s108 (N : Nat) (ns : List Int) (hn : ns.length ≤ 1048576) : Runs Try.prog 108 [.ro 1 (ns.map int1)] (emp N) fun r H' => r = .v (.int .i64 (sumW ns)) ∧ H' = emp N := by
  have hm : ns.length ≤ maxLen := by have : maxLen = 9223372036854775807 := rfl; omega
  refine C108_fn ?_
  unfold C108
  simp only [↓RP, RQ, if_true, if_false, cond_true, cond_false, vcBin, bne, ne_eq, vcRet, resAll, resA, retOf, Int.reduceEq, Int.reduceNe, Int.reduceLT, Int.reduceLE, Int.reduceGT, Int.reduceGE, Int.reduceBEq, Int.reduceBNe, Nat.reduceLT, Nat.reduceLeDiff, Nat.reduceAdd, Nat.reduceSub, Nat.reduceMul, Nat.reduceEqDiff, Nat.reduceBEq, Nat.reduceBNe, reduceCtorEq, Int.reduceNeg, len_map]
  refine vcLoop.st (σ := Nat × Int) (0, 0) (fun s => s.1 ≤ ns.length ∧ sumW ns = (ns.drop s.1).foldl (fun a n => IntKind.i64.wrap (a + n)) s.2) (fun s => ns.length - s.1) (fun s => hl N [])
    (fun s => [.ro 1 (ns.map int1), .any, .any, .v (.int .i64 s.2), .any, .any, .ro 1 (ns.map int1), .v (.int .i64 ns.length), .v (.int .i64 s.1), .any, .any, .any, .any, .any, .any, .any, .any]) ⟨Nat.zero_le _, rfl⟩ (Dr.refl _) (by simp only [↓RP, RQ, if_true, if_false, cond_true, cond_false, vcBin, bne, ne_eq, vcRet, resAll, resA, retOf, Int.reduceEq, Int.reduceNe, Int.reduceLT, Int.reduceLE, Int.reduceGT, Int.reduceGE, Int.reduceBEq, Int.reduceBNe, Nat.reduceLT, Nat.reduceLeDiff, Nat.reduceAdd, Nat.reduceSub, Nat.reduceMul, Nat.reduceEqDiff, Nat.reduceBEq, Nat.reduceBNe, reduceCtorEq, Int.reduceNeg]) ?_
  rintro ⟨i, a⟩ ⟨hi, hg⟩
  simp only [↓RP, RQ, if_true, if_false, cond_true, cond_false, vcBin, bne, ne_eq, vcRet, resAll, resA, retOf, Int.reduceEq, Int.reduceNe, Int.reduceLT, Int.reduceLE, Int.reduceGT, Int.reduceGE, Int.reduceBEq, Int.reduceBNe, Nat.reduceLT, Nat.reduceLeDiff, Nat.reduceAdd, Nat.reduceSub, Nat.reduceMul, Nat.reduceEqDiff, Nat.reduceBEq, Nat.reduceBNe, reduceCtorEq, Int.reduceNeg, len_map]
  refine vcIf.dec (fun h' => ?_) (fun h' => ?_)
  · have hlt : i < ns.length := by simpa using h'
    obtain ⟨x, hx0, hx, hd⟩ := at_i int1 ns hlt
    rw [hd, List.foldl_cons] at hg
    simp only [↓RP, RQ, if_true, if_false, cond_true, cond_false, vcBin, bne, ne_eq, vcRet, resAll, resA, retOf, Int.reduceEq, Int.reduceNe, Int.reduceLT, Int.reduceLE, Int.reduceGT, Int.reduceGE, Int.reduceBEq, Int.reduceBNe, Nat.reduceLT, Nat.reduceLeDiff, Nat.reduceAdd, Nat.reduceSub, Nat.reduceMul, Nat.reduceEqDiff, Nat.reduceBEq, Nat.reduceBNe, reduceCtorEq, Int.reduceNeg, len_map, nn, tn, lt_cast hlt, hx, int1, w_succ hlt hm]
    exact ⟨(i + 1, IntKind.i64.wrap (a + x)), by show ns.length - (i + 1) < ns.length - i; omega, ⟨hlt, hg⟩, by simp only [↓RP, RQ, if_true, if_false, cond_true, cond_false, vcBin, bne, ne_eq, vcRet, resAll, resA, retOf, Int.reduceEq, Int.reduceNe, Int.reduceLT, Int.reduceLE, Int.reduceGT, Int.reduceGE, Int.reduceBEq, Int.reduceBNe, Nat.reduceLT, Nat.reduceLeDiff, Nat.reduceAdd, Nat.reduceSub, Nat.reduceMul, Nat.reduceEqDiff, Nat.reduceBEq, Nat.reduceBNe, reduceCtorEq, Int.reduceNeg]⟩
  · have hge : i = ns.length := by simp at h'; omega
    subst hge
    rw [List.drop_length, List.foldl_nil] at hg
    simp only [↓RP, RQ, if_true, if_false, cond_true, cond_false, vcBin, bne, ne_eq, vcRet, resAll, resA, retOf, Int.reduceEq, Int.reduceNe, Int.reduceLT, Int.reduceLE, Int.reduceGT, Int.reduceGE, Int.reduceBEq, Int.reduceBNe, Nat.reduceLT, Nat.reduceLeDiff, Nat.reduceAdd, Nat.reduceSub, Nat.reduceMul, Nat.reduceEqDiff, Nat.reduceBEq, Nat.reduceBNe, reduceCtorEq, Int.reduceNeg, hg]
def askF (lo hi : Int) (n : Int) (x : Dem) : Int := bif inR x.rank lo hi then IntKind.i64.wrap (n + x.asked) else n
theorem s101 (N : Nat) (xs : List Dem) (hn : xs.length ≤ 1048576) (lo hi : Int) : Runs Try.prog 101 [.ro 3 (xs.map Dem.row), .v (.int .i64 lo), .v (.int .i64 hi)] (emp N) fun r H' => r = .v (.int .i64 (xs.foldl (askF lo hi) 0)) ∧ H' = emp N := by
  have hm : xs.length ≤ maxLen := by have : maxLen = 9223372036854775807 := rfl; omega
  refine Runs.fin0 (Q := fun r H' => r = .v (.int .i64 (xs.foldl (askF lo hi) 0))) ?_ (fun r H' h => by rw [h]; exact .same _ (.inl rfl)) (.v _)
  refine C101_fn ?_
  unfold C101
  simp only [↓RP, RQ, if_true, if_false, cond_true, cond_false, vcBin, bne, ne_eq, vcRet, resAll, resA, retOf, Int.reduceEq, Int.reduceNe, Int.reduceLT, Int.reduceLE, Int.reduceGT, Int.reduceGE, Int.reduceBEq, Int.reduceBNe, Nat.reduceLT, Nat.reduceLeDiff, Nat.reduceAdd, Nat.reduceSub, Nat.reduceMul, Nat.reduceEqDiff, Nat.reduceBEq, Nat.reduceBNe, reduceCtorEq, Int.reduceNeg, len_map]
  refine vcLoop.st (σ := Nat × Nat × Int) (0, N, 0) (fun s => s.1 ≤ xs.length ∧ xs.foldl (askF lo hi) 0 = (xs.drop s.1).foldl (askF lo hi) s.2.2) (fun s => xs.length - s.1) (fun s => hl s.2.1 [])
    (fun s => [.ro 3 (xs.map Dem.row), .v (.int .i64 lo), .v (.int .i64 hi), .any, .any, .any, .any, .v (.int .i64 s.2.2), .any, .any, .ro 3 (xs.map Dem.row), .v (.int .i64 xs.length), .v (.int .i64 s.1), .any, .any, .any, .any, .any, .any, .any, .any, .any, .any, .any, .any, .any, .any]) ⟨Nat.zero_le _, rfl⟩ (Dr.refl _) (by simp only [↓RP, RQ, if_true, if_false, cond_true, cond_false, vcBin, bne, ne_eq, vcRet, resAll, resA, retOf, Int.reduceEq, Int.reduceNe, Int.reduceLT, Int.reduceLE, Int.reduceGT, Int.reduceGE, Int.reduceBEq, Int.reduceBNe, Nat.reduceLT, Nat.reduceLeDiff, Nat.reduceAdd, Nat.reduceSub, Nat.reduceMul, Nat.reduceEqDiff, Nat.reduceBEq, Nat.reduceBNe, reduceCtorEq, Int.reduceNeg]) ?_
  rintro ⟨i, M, n⟩ ⟨hi', hg⟩
  simp only [↓RP, RQ, if_true, if_false, cond_true, cond_false, vcBin, bne, ne_eq, vcRet, resAll, resA, retOf, Int.reduceEq, Int.reduceNe, Int.reduceLT, Int.reduceLE, Int.reduceGT, Int.reduceGE, Int.reduceBEq, Int.reduceBNe, Nat.reduceLT, Nat.reduceLeDiff, Nat.reduceAdd, Nat.reduceSub, Nat.reduceMul, Nat.reduceEqDiff, Nat.reduceBEq, Nat.reduceBNe, reduceCtorEq, Int.reduceNeg, len_map]
  refine vcIf.dec (fun h' => ?_) (fun h' => ?_)
  · have hlt : i < xs.length := by simpa using h'
    obtain ⟨x, hx0, hx, hd⟩ := at_i Dem.row xs hlt
    rw [hd, List.foldl_cons, askF] at hg
    simp only [↓RP, RQ, if_true, if_false, cond_true, cond_false, vcBin, bne, ne_eq, vcRet, resAll, resA, retOf, Int.reduceEq, Int.reduceNe, Int.reduceLT, Int.reduceLE, Int.reduceGT, Int.reduceGE, Int.reduceBEq, Int.reduceBNe, Nat.reduceLT, Nat.reduceLeDiff, Nat.reduceAdd, Nat.reduceSub, Nat.reduceMul, Nat.reduceEqDiff, Nat.reduceBEq, Nat.reduceBNe, reduceCtorEq, Int.reduceNeg, len_map, nn, tn, lt_cast hlt, hx, Dem.row]
    first | refine vcCall.same (Runs.pure (s69 _ _ _ _) (Fzl.same _) (.v _)) ?_ | refine vcQCall.same (Runs.pure (s69 _ _ _ _) (Fzl.same _) (.v _)) ?_
    simp only [↓RP, RQ, if_true, if_false, cond_true, cond_false, vcBin, bne, ne_eq, vcRet, resAll, resA, retOf, Int.reduceEq, Int.reduceNe, Int.reduceLT, Int.reduceLE, Int.reduceGT, Int.reduceGE, Int.reduceBEq, Int.reduceBNe, Nat.reduceLT, Nat.reduceLeDiff, Nat.reduceAdd, Nat.reduceSub, Nat.reduceMul, Nat.reduceEqDiff, Nat.reduceBEq, Nat.reduceBNe, reduceCtorEq, Int.reduceNeg]
    first | refine vcIf.of (fun h2 => ?_) (fun h2 => ?_) | refine vcQIf.of (fun h2 => ?_) (fun h2 => ?_)
    · rw [h2, cond_true] at hg
      simp only [↓RP, RQ, if_true, if_false, cond_true, cond_false, vcBin, bne, ne_eq, vcRet, resAll, resA, retOf, Int.reduceEq, Int.reduceNe, Int.reduceLT, Int.reduceLE, Int.reduceGT, Int.reduceGE, Int.reduceBEq, Int.reduceBNe, Nat.reduceLT, Nat.reduceLeDiff, Nat.reduceAdd, Nat.reduceSub, Nat.reduceMul, Nat.reduceEqDiff, Nat.reduceBEq, Nat.reduceBNe, reduceCtorEq, Int.reduceNeg, h2, w_succ hlt hm]
      exact ⟨(i + 1, M + 1, IntKind.i64.wrap (n + x.asked)), by show xs.length - (i + 1) < xs.length - i; omega, ⟨hlt, hg⟩, by simp only [↓RP, RQ, if_true, if_false, cond_true, cond_false, vcBin, bne, ne_eq, vcRet, resAll, resA, retOf, Int.reduceEq, Int.reduceNe, Int.reduceLT, Int.reduceLE, Int.reduceGT, Int.reduceGE, Int.reduceBEq, Int.reduceBNe, Nat.reduceLT, Nat.reduceLeDiff, Nat.reduceAdd, Nat.reduceSub, Nat.reduceMul, Nat.reduceEqDiff, Nat.reduceBEq, Nat.reduceBNe, reduceCtorEq, Int.reduceNeg]⟩
    · rw [h2, cond_false] at hg
      simp only [↓RP, RQ, if_true, if_false, cond_true, cond_false, vcBin, bne, ne_eq, vcRet, resAll, resA, retOf, Int.reduceEq, Int.reduceNe, Int.reduceLT, Int.reduceLE, Int.reduceGT, Int.reduceGE, Int.reduceBEq, Int.reduceBNe, Nat.reduceLT, Nat.reduceLeDiff, Nat.reduceAdd, Nat.reduceSub, Nat.reduceMul, Nat.reduceEqDiff, Nat.reduceBEq, Nat.reduceBNe, reduceCtorEq, Int.reduceNeg, h2, w_succ hlt hm]
      exact ⟨(i + 1, M + 1, n), by show xs.length - (i + 1) < xs.length - i; omega, ⟨hlt, hg⟩, by simp only [↓RP, RQ, if_true, if_false, cond_true, cond_false, vcBin, bne, ne_eq, vcRet, resAll, resA, retOf, Int.reduceEq, Int.reduceNe, Int.reduceLT, Int.reduceLE, Int.reduceGT, Int.reduceGE, Int.reduceBEq, Int.reduceBNe, Nat.reduceLT, Nat.reduceLeDiff, Nat.reduceAdd, Nat.reduceSub, Nat.reduceMul, Nat.reduceEqDiff, Nat.reduceBEq, Nat.reduceBNe, reduceCtorEq, Int.reduceNeg]⟩
  · have hge : i = xs.length := by simp at h'; omega
    subst hge
    rw [List.drop_length, List.foldl_nil] at hg
    simp only [↓RP, RQ, if_true, if_false, cond_true, cond_false, vcBin, bne, ne_eq, vcRet, resAll, resA, retOf, Int.reduceEq, Int.reduceNe, Int.reduceLT, Int.reduceLE, Int.reduceGT, Int.reduceGE, Int.reduceBEq, Int.reduceBNe, Nat.reduceLT, Nat.reduceLeDiff, Nat.reduceAdd, Nat.reduceSub, Nat.reduceMul, Nat.reduceEqDiff, Nat.reduceBEq, Nat.reduceBNe, reduceCtorEq, Int.reduceNeg, hg]
def askI (lo hi : Int) (x : Dem) : Int := bif inR x.rank lo hi then x.asked else 0
theorem ask_fold (lo hi : Int) : ∀ (xs : List Dem) (a : Int), (∀ x, x ∈ xs → isAmt x.asked = true) → 0 ≤ a → a + 1000000000 * xs.length ≤ 9000000000000000000 →
    xs.foldl (askF lo hi) a = a + sumI (xs.map (askI lo hi)) ∧ 0 ≤ sumI (xs.map (askI lo hi)) ∧ sumI (xs.map (askI lo hi)) ≤ 1000000000 * xs.length
  | [], a, _, _, _ => ⟨by simp [sumI], by simp [sumI], by simp [sumI]⟩
  | x :: xs, a, h, ha, hb => by
    have hx := h x (List.mem_cons_self ..)
    simp only [isAmt, inR, Bool.and_eq_true, decide_eq_true_eq] at hx
    simp only [List.length_cons] at hb ⊢
    push_cast at hb ⊢
    rw [List.foldl_cons, List.map_cons, sumI]
    cases hr : inR x.rank lo hi with
    | true =>
      obtain ⟨h1, h2, h3⟩ := ask_fold lo hi xs (a + x.asked) (fun y hy => h y (List.mem_cons_of_mem _ hy)) (by omega) (by omega)
      rw [askF, askI, hr, cond_true, cond_true, w64 (by omega) (by omega), h1]
      exact ⟨by omega, by omega, by omega⟩
    | false =>
      obtain ⟨h1, h2, h3⟩ := ask_fold lo hi xs a (fun y hy => h y (List.mem_cons_of_mem _ hy)) (by omega) (by omega)
      rw [askF, askI, hr, cond_false, cond_false, h1]
      exact ⟨by omega, by omega, by omega⟩
theorem areDem_good {xs : List Dem} (h : areDem xs = true) : xs.length ≤ 12 ∧ ∀ x, x ∈ xs → x.good = true := by
  simp only [areDem, chk_eq, Bool.and_eq_true, decide_eq_true_eq, List.all_eq_true] at h
  exact ⟨by omega, h.1.1⟩
theorem good_amt {x : Dem} (h : x.good = true) : isAmt x.asked = true ∧ isRk x.rank = true := by
  simp only [Dem.good, Bool.and_eq_true] at h
  exact ⟨h.2, h.1.2⟩
end Go.Proofs.Ytcbijbckbloadaa
