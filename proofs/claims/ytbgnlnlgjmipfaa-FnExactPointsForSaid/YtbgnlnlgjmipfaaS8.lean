/- Contracts about sums, and about what is asked by rank. -/
import Derived.Test.YtbgnlnlgjmipfaaK3
import Derived.Test.YtbgnlnlgjmipfaaK4
import Derived.Test.YtbgnlnlgjmipfaaS4
set_option linter.unusedVariables false
set_option linter.unusedSimpArgs false
namespace Go.Proofs.Ytbgnlnlgjmipfaa
open Go.Abs
theorem s103 (N : Nat) (ns : List Int) (hn : ns.length ≤ 1048576) : Runs Try.prog 103 [.ro 1 (ns.map int1)] (emp N) fun r H' => r = .v (.int .i64 (sumW ns)) ∧ H' = emp N := by
  have hm : ns.length ≤ maxLen := by have : maxLen = 9223372036854775807 := rfl; omega
  refine C103_fn ?_
  unfold C103
  simp only [↓RP, RQ, if_true, if_false, cond_true, cond_false, vcBin, bne, ne_eq, vcRet, resAll, resA, retOf, Int.reduceEq, Int.reduceNe, Int.reduceLT, Int.reduceLE, Int.reduceGT, Int.reduceGE, Int.reduceBEq, Int.reduceBNe, Nat.reduceLT, Nat.reduceLeDiff, Nat.reduceAdd, Nat.reduceSub, Nat.reduceMul, Nat.reduceEqDiff, Nat.reduceBEq, Nat.reduceBNe, reduceCtorEq, Int.reduceNeg, len_map]
  refine vcLoop.st (σ := Nat × Int) (0, 0) (fun s => s.1 ≤ ns.length ∧ sumW ns = (ns.drop s.1).foldl (fun a n => IntKind.i64.wrap (a + n)) s.2) (fun s => ns.length - s.1) (fun s => hl N [])
    (fun s => [.ro 1 (ns.map int1), .any, .any, .v (.int .i64 s.2), .v (.int .i64 s.1), .any, .any, .any, .any, .any, .any, .any, .any, .any, .any, .any, .any, .any]) ⟨Nat.zero_le _, rfl⟩ (Dr.refl _) (by simp only [↓RP, RQ, if_true, if_false, cond_true, cond_false, vcBin, bne, ne_eq, vcRet, resAll, resA, retOf, Int.reduceEq, Int.reduceNe, Int.reduceLT, Int.reduceLE, Int.reduceGT, Int.reduceGE, Int.reduceBEq, Int.reduceBNe, Nat.reduceLT, Nat.reduceLeDiff, Nat.reduceAdd, Nat.reduceSub, Nat.reduceMul, Nat.reduceEqDiff, Nat.reduceBEq, Nat.reduceBNe, reduceCtorEq, Int.reduceNeg]) ?_
  rintro ⟨i, a⟩ ⟨hi, hg⟩
  simp only [↓RP, RQ, if_true, if_false, cond_true, cond_false, vcBin, bne, ne_eq, vcRet, resAll, resA, retOf, Int.reduceEq, Int.reduceNe, Int.reduceLT, Int.reduceLE, Int.reduceGT, Int.reduceGE, Int.reduceBEq, Int.reduceBNe, Nat.reduceLT, Nat.reduceLeDiff, Nat.reduceAdd, Nat.reduceSub, Nat.reduceMul, Nat.reduceEqDiff, Nat.reduceBEq, Nat.reduceBNe, reduceCtorEq, Int.reduceNeg, len_map]
  refine vcIf.dec (fun h' => ?_) (fun h' => ?_)
  · have hlt : i < ns.length := by simpa using h'
    obtain ⟨x, hx0, hx, hd⟩ := at_i int1 ns hlt
    rw [hd, List.foldl_cons] at hg
    simp only [↓RP, RQ, if_true, if_false, cond_true, cond_false, vcBin, bne, ne_eq, vcRet, resAll, resA, retOf, Int.reduceEq, Int.reduceNe, Int.reduceLT, Int.reduceLE, Int.reduceGT, Int.reduceGE, Int.reduceBEq, Int.reduceBNe, Nat.reduceLT, Nat.reduceLeDiff, Nat.reduceAdd, Nat.reduceSub, Nat.reduceMul, Nat.reduceEqDiff, Nat.reduceBEq, Nat.reduceBNe, reduceCtorEq, Int.reduceNeg, len_map, nn, tn, lt_cast hlt, hx, int1, w_succ hlt hm]
    exact ⟨(i + 1, IntKind.i64.wrap (a + x)), by show ns.length - (i + 1) < ns.length - i; omega, ⟨hlt, hg⟩, by simp only [↓RP, RQ, if_true, if_false, cond_true, cond_false, vcBin, bne, ne_eq, vcRet, resAll, resA, retOf, Int.reduceEq, Int.reduceNe, Int.reduceLT, Int.reduceLE, Int.reduceGT, Int.reduceGE, Int.reduceBEq, Int.reduceBNe, Nat.reduceLT, Nat.reduceLeDiff, Nat.reduceAdd, Nat.reduceSub, Nat.reduceMul, Nat.reduceEqDiff, Nat.reduceBEq, Nat.reduceBNe, reduceCtorEq, Int.reduceNeg]⟩
  · have hge : i = ns.length := by simp at h'; omega
    subst hge
    rw [List.drop_length, List.foldl_nil] at hg
    simp only [↓RP, RQ, if_true, if_false, cond_true, cond_false, vcBin, bne, ne_eq, vcRet, resAll, resA, retOf, Int.reduceEq, Int.reduceNe, Int.reduceLT, Int.reduceLE, Int.reduceGT, Int.reduceGE, Int.reduceBEq, Int.reduceBNe, Nat.reduceLT, Nat.reduceLeDiff, Nat.reduceAdd, Nat.reduceSub, Nat.reduceMul, Nat.reduceEqDiff, Nat.reduceBEq, Nat.reduceBNe, reduceCtorEq, Int.reduceNeg, hg]
theorem s118 (N : Nat) (ns : List Int) (hn : ns.length ≤ 1048576) : Runs Try.prog 118 [.ro 1 (ns.map int1)] (emp N) fun r H' => r = .v (.int .i64 (sumW ns)) ∧ H' = emp N := by
  have hm : ns.length ≤ maxLen := by have : maxLen = 9223372036854775807 := rfl; omega
  refine C118_fn ?_
  unfold C118
  simp only [↓RP, RQ, if_true, if_false, cond_true, cond_false, vcBin, bne, ne_eq, vcRet, resAll, resA, retOf, Int.reduceEq, Int.reduceNe, Int.reduceLT, Int.reduceLE, Int.reduceGT, Int.reduceGE, Int.reduceBEq, Int.reduceBNe, Nat.reduceLT, Nat.reduceLeDiff, Nat.reduceAdd, Nat.reduceSub, Nat.reduceMul, Nat.reduceEqDiff, Nat.reduceBEq, Nat.reduceBNe, reduceCtorEq, Int.reduceNeg, len_map]
  refine vcLoop.st (σ := Nat × Int) (0, 0) (fun s => s.1 ≤ ns.length ∧ sumW ns = (ns.drop s.1).foldl (fun a n => IntKind.i64.wrap (a + n)) s.2) (fun s => ns.length - s.1) (fun s => hl N [])
    (fun s => [.ro 1 (ns.map int1), .any, .any, .v (.int .i64 s.2), .any, .any, .ro 1 (ns.map int1), .v (.int .i64 ns.length), .v (.int .i64 s.1), .any, .any, .any, .any, .any, .any, .any, .any]) ⟨Nat.zero_le _, rfl⟩ (Dr.refl _) (by simp only [↓RP, RQ, if_true, if_false, cond_true, cond_false, vcBin, bne, ne_eq, vcRet, resAll, resA, retOf, Int.reduceEq, Int.reduceNe, Int.reduceLT, Int.reduceLE, Int.reduceGT, Int.reduceGE, Int.reduceBEq, Int.reduceBNe, Nat.reduceLT, Nat.reduceLeDiff, Nat.reduceAdd, Nat.reduceSub, Nat.reduceMul, Nat.reduceEqDiff, Nat.reduceBEq, Nat.reduceBNe, reduceCtorEq, Int.reduceNeg]) ?_
  rintro ⟨i, a⟩ ⟨hi, hg⟩
  simp only [↓RP, RQ, if_true, if_false, cond_true, cond_false, vcBin, bne, ne_eq, vcRet, resAll, resA, retOf, Int.reduceEq, Int.reduceNe, Int.reduceLT, Int.reduceLE, Int.reduceGT, Int.reduceGE, Int.reduceBEq, Int.reduceBNe, Nat.reduceLT, Nat.reduceLeDiff, Nat.reduceAdd, Nat.reduceSub, Nat.reduceMul, Nat.reduceEqDiff, Nat.reduceBEq, Nat.reduceBNe, reduceCtorEq, Int.reduceNeg, len_map]
  refine vcIf.dec (fun h' => ?_) (fun h' => ?_)
  · have hlt : i < ns.length := by simpa using h'
    obtain ⟨x, hx0, hx, hd⟩ := at_i int1 ns hlt
    rw [hd, List.foldl_cons] at hg
    simp only [↓RP, RQ, if_true, if_false, cond_true, cond_false, vcBin, bne, ne_eq, vcRet, resAll, resA, retOf, Int.reduceEq, Int.reduceNe, Int.reduceLT, Int.reduceLE, Int.reduceGT, Int.reduceGE, Int.reduceBEq, Int.reduceBNe, Nat.reduceLT, Nat.reduceLeDiff, Nat.reduceAdd, Nat.reduceSub, Nat.reduceMul, Nat.reduceEqDiff, Nat.reduceBEq, Nat.reduceBNe, reduceCtorEq, Int.reduceNeg, len_map, nn, tn, lt_cast hlt, hx, int1, w_succ hlt hm]
    exact ⟨(i + 1, IntKind.i64.wrap (a + x)), by show ns.length - (i + 1) < ns.length - i; omega, ⟨hlt, hg⟩, by simp only [↓RP, RQ, if_true, if_false, cond_true, cond_false, vcBin, bne, ne_eq, vcRet, resAll, resA, retOf, Int.reduceEq, Int.reduceNe, Int.reduceLT, Int.reduceLE, Int.reduceGT, Int.reduceGE, Int.reduceBEq, Int.reduceBNe, Nat.reduceLT, Nat.reduceLeDiff, Nat.reduceAdd, Nat.reduceSub, Nat.reduceMul, Nat.reduceEqDiff, Nat.reduceBEq, Nat.reduceBNe, reduceCtorEq, Int.reduceNeg]⟩
  · have hge : i = ns.length := by simp at h'; omega
    subst hge
    rw [List.drop_length, List.foldl_nil] at hg
    simp only [↓RP, RQ, if_true, if_false, cond_true, cond_false, vcBin, bne, ne_eq, vcRet, resAll, resA, retOf, Int.reduceEq, Int.reduceNe, Int.reduceLT, Int.reduceLE, Int.reduceGT, Int.reduceGE, Int.reduceBEq, Int.reduceBNe, Nat.reduceLT, Nat.reduceLeDiff, Nat.reduceAdd, Nat.reduceSub, Nat.reduceMul, Nat.reduceEqDiff, Nat.reduceBEq, Nat.reduceBNe, reduceCtorEq, Int.reduceNeg, hg]
def askN (rk : Int) (x : Dem) : Int := if (x.rank == rk) = true then x.asked else 0
theorem s104 (N : Nat) (xs : List Dem) (hn : xs.length ≤ 1048576) (rk : Int) : Runs Try.prog 104 [.ro 3 (xs.map Dem.row), .v (.int .i64 rk)] (emp N) fun r H' => r = .ro 1 ((xs.map (askN rk)).map int1) ∧ H' = emp N := by
  have hm : xs.length ≤ maxLen := by have : maxLen = 9223372036854775807 := rfl; omega
  refine Runs.fin0 (Q := fun r H' => ∃ b, r = .own b xs.length ∧ H'.m b = some ⟨1, (xs.map (askN rk)).map int1⟩) ?_ (fun r H' h => by obtain ⟨b, rfl, h⟩ := h; exact Fz.all h (by simp)) (noref_ro int1_nr _)
  refine C104_fn ?_
  unfold C104
  simp only [↓RP, RQ, if_true, if_false, cond_true, cond_false, vcBin, bne, ne_eq, vcRet, resAll, resA, retOf, Int.reduceEq, Int.reduceNe, Int.reduceLT, Int.reduceLE, Int.reduceGT, Int.reduceGE, Int.reduceBEq, Int.reduceBNe, Nat.reduceLT, Nat.reduceLeDiff, Nat.reduceAdd, Nat.reduceSub, Nat.reduceMul, Nat.reduceEqDiff, Nat.reduceBEq, Nat.reduceBNe, reduceCtorEq, Int.reduceNeg]
  refine vcLoop.st (σ := Nat × Nat × Nat) (0, N + 1, N) (fun s => s.1 ≤ xs.length ∧ s.2.2 < s.2.1) (fun s => xs.length - s.1) (fun s => hl s.2.1 [(s.2.2, some ⟨1, grow (fun x => int1 (askN rk x)) xs s.1⟩)])
    (fun s => [.ro 3 (xs.map Dem.row), .v (.int .i64 rk), .any, .any, .any, .own s.2.2 s.1, .v (.int .i64 s.1), .any, .any, .any, .any, .any, .any, .any, .any, .any, .any, .any, .any, .any, .any, .any, .any, .any, .any, .any, .any, .any, .any, .any, .any, .any]) ⟨Nat.zero_le _, Nat.lt_succ_self _⟩ (Dr.refl _) (by simp only [↓RP, RQ, if_true, if_false, cond_true, cond_false, vcBin, bne, ne_eq, vcRet, resAll, resA, retOf, Int.reduceEq, Int.reduceNe, Int.reduceLT, Int.reduceLE, Int.reduceGT, Int.reduceGE, Int.reduceBEq, Int.reduceBNe, Nat.reduceLT, Nat.reduceLeDiff, Nat.reduceAdd, Nat.reduceSub, Nat.reduceMul, Nat.reduceEqDiff, Nat.reduceBEq, Nat.reduceBNe, reduceCtorEq, Int.reduceNeg]) ?_
  rintro ⟨i, M, b⟩ ⟨hi, hb⟩
  simp only [↓RP, RQ, if_true, if_false, cond_true, cond_false, vcBin, bne, ne_eq, vcRet, resAll, resA, retOf, Int.reduceEq, Int.reduceNe, Int.reduceLT, Int.reduceLE, Int.reduceGT, Int.reduceGE, Int.reduceBEq, Int.reduceBNe, Nat.reduceLT, Nat.reduceLeDiff, Nat.reduceAdd, Nat.reduceSub, Nat.reduceMul, Nat.reduceEqDiff, Nat.reduceBEq, Nat.reduceBNe, reduceCtorEq, Int.reduceNeg, len_map]
  refine vcIf.dec (fun h' => ?_) (fun h' => ?_)
  · have hlt : i < xs.length := by simpa using h'
    obtain ⟨x, hx0, hx, hd⟩ := at_i Dem.row xs hlt
    have hgs := grow_step (fun x => int1 (askN rk x)) hx0
    simp only [↓RP, RQ, if_true, if_false, cond_true, cond_false, vcBin, bne, ne_eq, vcRet, resAll, resA, retOf, Int.reduceEq, Int.reduceNe, Int.reduceLT, Int.reduceLE, Int.reduceGT, Int.reduceGE, Int.reduceBEq, Int.reduceBNe, Nat.reduceLT, Nat.reduceLeDiff, Nat.reduceAdd, Nat.reduceSub, Nat.reduceMul, Nat.reduceEqDiff, Nat.reduceBEq, Nat.reduceBNe, reduceCtorEq, Int.reduceNeg, len_map, nn, tn, lt_cast hlt, hx, Dem.row]
    first | refine vcIf.of (fun h2 => ?_) (fun h2 => ?_) | refine vcQIf.of (fun h2 => ?_) (fun h2 => ?_)
    · have ha : askN rk x = x.asked := if_pos h2
      rw [ha, int1] at hgs
      simp only [↓RP, RQ, if_true, if_false, cond_true, cond_false, vcBin, bne, ne_eq, vcRet, resAll, resA, retOf, Int.reduceEq, Int.reduceNe, Int.reduceLT, Int.reduceLE, Int.reduceGT, Int.reduceGE, Int.reduceBEq, Int.reduceBNe, Nat.reduceLT, Nat.reduceLeDiff, Nat.reduceAdd, Nat.reduceSub, Nat.reduceMul, Nat.reduceEqDiff, Nat.reduceBEq, Nat.reduceBNe, reduceCtorEq, Int.reduceNeg, h2, len_map, nn, tn, lt_cast hlt, hx, Dem.row, elems, ne_lt hb, ne_gt hb, grow_len (fun x => int1 (askN rk x)) hi, true_le]
      refine ⟨by omega, ?_⟩
      simp only [↓RP, RQ, if_true, if_false, cond_true, cond_false, vcBin, bne, ne_eq, vcRet, resAll, resA, retOf, Int.reduceEq, Int.reduceNe, Int.reduceLT, Int.reduceLE, Int.reduceGT, Int.reduceGE, Int.reduceBEq, Int.reduceBNe, Nat.reduceLT, Nat.reduceLeDiff, Nat.reduceAdd, Nat.reduceSub, Nat.reduceMul, Nat.reduceEqDiff, Nat.reduceBEq, Nat.reduceBNe, reduceCtorEq, Int.reduceNeg, w_succ hlt hm]
      refine ⟨(i + 1, M + 2, M + 1), by show xs.length - (i + 1) < xs.length - i; omega, ⟨hlt, by show M + 1 < M + 2; omega⟩, by simp only [↓RP, RQ, if_true, if_false, cond_true, cond_false, vcBin, bne, ne_eq, vcRet, resAll, resA, retOf, Int.reduceEq, Int.reduceNe, Int.reduceLT, Int.reduceLE, Int.reduceGT, Int.reduceGE, Int.reduceBEq, Int.reduceBNe, Nat.reduceLT, Nat.reduceLeDiff, Nat.reduceAdd, Nat.reduceSub, Nat.reduceMul, Nat.reduceEqDiff, Nat.reduceBEq, Nat.reduceBNe, reduceCtorEq, Int.reduceNeg, hgs], by simp only [↓RP, RQ, if_true, if_false, cond_true, cond_false, vcBin, bne, ne_eq, vcRet, resAll, resA, retOf, Int.reduceEq, Int.reduceNe, Int.reduceLT, Int.reduceLE, Int.reduceGT, Int.reduceGE, Int.reduceBEq, Int.reduceBNe, Nat.reduceLT, Nat.reduceLeDiff, Nat.reduceAdd, Nat.reduceSub, Nat.reduceMul, Nat.reduceEqDiff, Nat.reduceBEq, Nat.reduceBNe, reduceCtorEq, Int.reduceNeg]⟩
    · have ha : askN rk x = 0 := if_neg (by rw [h2]; simp)
      rw [ha, int1] at hgs
      simp only [↓RP, RQ, if_true, if_false, cond_true, cond_false, vcBin, bne, ne_eq, vcRet, resAll, resA, retOf, Int.reduceEq, Int.reduceNe, Int.reduceLT, Int.reduceLE, Int.reduceGT, Int.reduceGE, Int.reduceBEq, Int.reduceBNe, Nat.reduceLT, Nat.reduceLeDiff, Nat.reduceAdd, Nat.reduceSub, Nat.reduceMul, Nat.reduceEqDiff, Nat.reduceBEq, Nat.reduceBNe, reduceCtorEq, Int.reduceNeg, h2, len_map, nn, tn, lt_cast hlt, hx, Dem.row, elems, ne_lt hb, ne_gt hb, grow_len (fun x => int1 (askN rk x)) hi, true_le]
      refine ⟨by omega, ?_⟩
      simp only [↓RP, RQ, if_true, if_false, cond_true, cond_false, vcBin, bne, ne_eq, vcRet, resAll, resA, retOf, Int.reduceEq, Int.reduceNe, Int.reduceLT, Int.reduceLE, Int.reduceGT, Int.reduceGE, Int.reduceBEq, Int.reduceBNe, Nat.reduceLT, Nat.reduceLeDiff, Nat.reduceAdd, Nat.reduceSub, Nat.reduceMul, Nat.reduceEqDiff, Nat.reduceBEq, Nat.reduceBNe, reduceCtorEq, Int.reduceNeg, w_succ hlt hm]
      refine ⟨(i + 1, M + 2, M + 1), by show xs.length - (i + 1) < xs.length - i; omega, ⟨hlt, by show M + 1 < M + 2; omega⟩, by simp only [↓RP, RQ, if_true, if_false, cond_true, cond_false, vcBin, bne, ne_eq, vcRet, resAll, resA, retOf, Int.reduceEq, Int.reduceNe, Int.reduceLT, Int.reduceLE, Int.reduceGT, Int.reduceGE, Int.reduceBEq, Int.reduceBNe, Nat.reduceLT, Nat.reduceLeDiff, Nat.reduceAdd, Nat.reduceSub, Nat.reduceMul, Nat.reduceEqDiff, Nat.reduceBEq, Nat.reduceBNe, reduceCtorEq, Int.reduceNeg, hgs], by simp only [↓RP, RQ, if_true, if_false, cond_true, cond_false, vcBin, bne, ne_eq, vcRet, resAll, resA, retOf, Int.reduceEq, Int.reduceNe, Int.reduceLT, Int.reduceLE, Int.reduceGT, Int.reduceGE, Int.reduceBEq, Int.reduceBNe, Nat.reduceLT, Nat.reduceLeDiff, Nat.reduceAdd, Nat.reduceSub, Nat.reduceMul, Nat.reduceEqDiff, Nat.reduceBEq, Nat.reduceBNe, reduceCtorEq, Int.reduceNeg]⟩
  · have hge : i = xs.length := by simp at h'; omega
    subst hge
    simp only [↓RP, RQ, if_true, if_false, cond_true, cond_false, vcBin, bne, ne_eq, vcRet, resAll, resA, retOf, Int.reduceEq, Int.reduceNe, Int.reduceLT, Int.reduceLE, Int.reduceGT, Int.reduceGE, Int.reduceBEq, Int.reduceBNe, Nat.reduceLT, Nat.reduceLeDiff, Nat.reduceAdd, Nat.reduceSub, Nat.reduceMul, Nat.reduceEqDiff, Nat.reduceBEq, Nat.reduceBNe, reduceCtorEq, Int.reduceNeg, grow_end]
    exact ⟨b, rfl, (look_same _ _ _).trans (by rw [List.map_map]; rfl)⟩
def askF (lo hi : Int) (n : Int) (x : Dem) : Int := bif inR x.rank lo hi then IntKind.i64.wrap (n + x.asked) else n
theorem s108 (N : Nat) (xs : List Dem) (hn : xs.length ≤ 1048576) (lo hi : Int) : Runs Try.prog 108 [.ro 3 (xs.map Dem.row), .v (.int .i64 lo), .v (.int .i64 hi)] (emp N) fun r H' => r = .v (.int .i64 (xs.foldl (askF lo hi) 0)) ∧ H' = emp N := by
  have hm : xs.length ≤ maxLen := by have : maxLen = 9223372036854775807 := rfl; omega
  refine Runs.fin0 (Q := fun r H' => r = .v (.int .i64 (xs.foldl (askF lo hi) 0))) ?_ (fun r H' h => by rw [h]; exact .same _ (.inl rfl)) (.v _)
  refine C108_fn ?_
  unfold C108
  simp only [↓RP, RQ, if_true, if_false, cond_true, cond_false, vcBin, bne, ne_eq, vcRet, resAll, resA, retOf, Int.reduceEq, Int.reduceNe, Int.reduceLT, Int.reduceLE, Int.reduceGT, Int.reduceGE, Int.reduceBEq, Int.reduceBNe, Nat.reduceLT, Nat.reduceLeDiff, Nat.reduceAdd, Nat.reduceSub, Nat.reduceMul, Nat.reduceEqDiff, Nat.reduceBEq, Nat.reduceBNe, reduceCtorEq, Int.reduceNeg, len_map]
  refine vcLoop.st (σ := Nat × Nat × Int) (0, N, 0) (fun s => s.1 ≤ xs.length ∧ xs.foldl (askF lo hi) 0 = (xs.drop s.1).foldl (askF lo hi) s.2.2) (fun s => xs.length - s.1) (fun s => hl s.2.1 [])
    (fun s => [.ro 3 (xs.map Dem.row), .v (.int .i64 lo), .v (.int .i64 hi), .any, .any, .any, .any, .v (.int .i64 s.2.2), .any, .any, .ro 3 (xs.map Dem.row), .v (.int .i64 xs.length), .v (.int .i64 s.1), .any, .any, .any, .any, .any, .any, .any, .any, .any, .any, .any, .any, .any, .any]) ⟨Nat.zero_le _, rfl⟩ (Dr.refl _) (by simp only [↓RP, RQ, if_true, if_false, cond_true, cond_false, vcBin, bne, ne_eq, vcRet, resAll, resA, retOf, Int.reduceEq, Int.reduceNe, Int.reduceLT, Int.reduceLE, Int.reduceGT, Int.reduceGE, Int.reduceBEq, Int.reduceBNe, Nat.reduceLT, Nat.reduceLeDiff, Nat.reduceAdd, Nat.reduceSub, Nat.reduceMul, Nat.reduceEqDiff, Nat.reduceBEq, Nat.reduceBNe, reduceCtorEq, Int.reduceNeg]) ?_
  rintro ⟨i, M, n⟩ ⟨hi', hg⟩
  simp only [↓RP, RQ, if_true, if_false, cond_true, cond_false, vcBin, bne, ne_eq, vcRet, resAll, resA, retOf, Int.reduceEq, Int.reduceNe, Int.reduceLT, Int.reduceLE, Int.reduceGT, Int.reduceGE, Int.reduceBEq, Int.reduceBNe, Nat.reduceLT, Nat.reduceLeDiff, Nat.reduceAdd, Nat.reduceSub, Nat.reduceMul, Nat.reduceEqDiff, Nat.reduceBEq, Nat.reduceBNe, reduceCtorEq, Int.reduceNeg, len_map]
  refine vcIf.dec (fun h' => ?_) (fun h' => ?_)
  · have hlt : i < xs.length := by simpa using h'
    obtain ⟨x, hx0, hx, hd⟩ := at_i Dem.row xs hlt
    rw [hd, List.foldl_cons, askF] at hg
    simp only [↓RP, RQ, if_true, if_false, cond_true, cond_false, vcBin, bne, ne_eq, vcRet, resAll, resA, retOf, Int.reduceEq, Int.reduceNe, Int.reduceLT, Int.reduceLE, Int.reduceGT, Int.reduceGE, Int.reduceBEq, Int.reduceBNe, Nat.reduceLT, Nat.reduceLeDiff, Nat.reduceAdd, Nat.reduceSub, Nat.reduceMul, Nat.reduceEqDiff, Nat.reduceBEq, Nat.reduceBNe, reduceCtorEq, Int.reduceNeg, len_map, nn, tn, lt_cast hlt, hx, Dem.row]
    first | refine vcCall.same (Runs.pure (s87 _ _ _ _) (Fzl.same _) (.v _)) ?_ | refine vcQCall.same (Runs.pure (s87 _ _ _ _) (Fzl.same _) (.v _)) ?_
    simp only [↓RP, RQ, if_true, if_false, cond_true, cond_false, vcBin, bne, ne_eq, vcRet, resAll, resA, retOf, Int.reduceEq, Int.reduceNe, Int.reduceLT, Int.reduceLE, Int.reduceGT, Int.reduceGE, Int.reduceBEq, Int.reduceBNe, Nat.reduceLT, Nat.reduceLeDiff, Nat.reduceAdd, Nat.reduceSub, Nat.reduceMul, Nat.reduceEqDiff, Nat.reduceBEq, Nat.reduceBNe, reduceCtorEq, Int.reduceNeg]
    first | refine vcIf.of (fun h2 => ?_) (fun h2 => ?_) | refine vcQIf.of (fun h2 => ?_) (fun h2 => ?_)
    · rw [h2, cond_true] at hg
      simp only [↓RP, RQ, if_true, if_false, cond_true, cond_false, vcBin, bne, ne_eq, vcRet, resAll, resA, retOf, Int.reduceEq, Int.reduceNe, Int.reduceLT, Int.reduceLE, Int.reduceGT, Int.reduceGE, Int.reduceBEq, Int.reduceBNe, Nat.reduceLT, Nat.reduceLeDiff, Nat.reduceAdd, Nat.reduceSub, Nat.reduceMul, Nat.reduceEqDiff, Nat.reduceBEq, Nat.reduceBNe, reduceCtorEq, Int.reduceNeg, h2, w_succ hlt hm]
      exact ⟨(i + 1, M + 1, IntKind.i64.wrap (n + x.asked)), by show xs.length - (i + 1) < xs.length - i; omega, ⟨hlt, hg⟩, by simp only [↓RP, RQ, if_true, if_false, cond_true, cond_false, vcBin, bne, ne_eq, vcRet, resAll, resA, retOf, Int.reduceEq, Int.reduceNe, Int.reduceLT, Int.reduceLE, Int.reduceGT, Int.reduceGE, Int.reduceBEq, Int.reduceBNe, Nat.reduceLT, Nat.reduceLeDiff, Nat.reduceAdd, Nat.reduceSub, Nat.reduceMul, Nat.reduceEqDiff, Nat.reduceBEq, Nat.reduceBNe, reduceCtorEq, Int.reduceNeg]⟩
    · rw [h2, cond_false] at hg
      simp only [↓RP, RQ, if_true, if_false, cond_true, cond_false, vcBin, bne, ne_eq, vcRet, resAll, resA, retOf, Int.reduceEq, Int.reduceNe, Int.reduceLT, Int.reduceLE, Int.reduceGT, Int.reduceGE, Int.reduceBEq, Int.reduceBNe, Nat.reduceLT, Nat.reduceLeDiff, Nat.reduceAdd, Nat.reduceSub, Nat.reduceMul, Nat.reduceEqDiff, Nat.reduceBEq, Nat.reduceBNe, reduceCtorEq, Int.reduceNeg, h2, w_succ hlt hm]
      exact ⟨(i + 1, M + 1, n), by show xs.length - (i + 1) < xs.length - i; omega, ⟨hlt, hg⟩, by simp only [↓RP, RQ, if_true, if_false, cond_true, cond_false, vcBin, bne, ne_eq, vcRet, resAll, resA, retOf, Int.reduceEq, Int.reduceNe, Int.reduceLT, Int.reduceLE, Int.reduceGT, Int.reduceGE, Int.reduceBEq, Int.reduceBNe, Nat.reduceLT, Nat.reduceLeDiff, Nat.reduceAdd, Nat.reduceSub, Nat.reduceMul, Nat.reduceEqDiff, Nat.reduceBEq, Nat.reduceBNe, reduceCtorEq, Int.reduceNeg]⟩
  · have hge : i = xs.length := by simp at h'; omega
    subst hge
    rw [List.drop_length, List.foldl_nil] at hg
    simp only [↓RP, RQ, if_true, if_false, cond_true, cond_false, vcBin, bne, ne_eq, vcRet, resAll, resA, retOf, Int.reduceEq, Int.reduceNe, Int.reduceLT, Int.reduceLE, Int.reduceGT, Int.reduceGE, Int.reduceBEq, Int.reduceBNe, Nat.reduceLT, Nat.reduceLeDiff, Nat.reduceAdd, Nat.reduceSub, Nat.reduceMul, Nat.reduceEqDiff, Nat.reduceBEq, Nat.reduceBNe, reduceCtorEq, Int.reduceNeg, hg]
def askI (lo hi : Int) (x : Dem) : Int := bif inR x.rank lo hi then x.asked else 0
theorem ask_fold (lo hi : Int) : ∀ (xs : List Dem) (a : Int), (∀ x, x ∈ xs → isAmt x.asked = true) → 0 ≤ a → a + 1000000000 * xs.length ≤ 9000000000000000000 →
    xs.foldl (askF lo hi) a = a + sumI (xs.map (askI lo hi)) ∧ 0 ≤ sumI (xs.map (askI lo hi)) ∧ sumI (xs.map (askI lo hi)) ≤ 1000000000 * xs.length
  | [], a, _, _, _ => ⟨by simp [sumI], by simp [sumI], by simp [sumI]⟩
  | x :: xs, a, h, ha, hb => by
    have hx := h x (List.mem_cons_self ..)
    simp only [isAmt, inR, Bool.and_eq_true, decide_eq_true_eq] at hx
    simp only [List.length_cons] at hb ⊢
    push_cast at hb ⊢
    rw [List.foldl_cons, List.map_cons, sumI]
    cases hr : inR x.rank lo hi with
    | true =>
      obtain ⟨h1, h2, h3⟩ := ask_fold lo hi xs (a + x.asked) (fun y hy => h y (List.mem_cons_of_mem _ hy)) (by omega) (by omega)
      rw [askF, askI, hr, cond_true, cond_true, w64 (by omega) (by omega), h1]
      exact ⟨by omega, by omega, by omega⟩
    | false =>
      obtain ⟨h1, h2, h3⟩ := ask_fold lo hi xs a (fun y hy => h y (List.mem_cons_of_mem _ hy)) (by omega) (by omega)
      rw [askF, askI, hr, cond_false, cond_false, h1]
      exact ⟨by omega, by omega, by omega⟩
theorem s102 (N : Nat) (xs : List Dem) (hn : xs.length ≤ 1048576) (hx : ∀ x, x ∈ xs → x.ok) (n : Int) : Runs Try.prog 102 [.ro 3 (xs.map Dem.row), .v (.int .i64 n)] (emp N) fun r H' => r = .v (.int .i64 (bif areDem xs then (bif isAmt n then 0 else 2) else 1)) ∧ H' = emp N := by
  refine C102_fn ?_
  unfold C102
  simp only [↓RP, RQ, if_true, if_false, cond_true, cond_false, vcBin, bne, ne_eq, vcRet, resAll, resA, retOf, Int.reduceEq, Int.reduceNe, Int.reduceLT, Int.reduceLE, Int.reduceGT, Int.reduceGE, Int.reduceBEq, Int.reduceBNe, Nat.reduceLT, Nat.reduceLeDiff, Nat.reduceAdd, Nat.reduceSub, Nat.reduceMul, Nat.reduceEqDiff, Nat.reduceBEq, Nat.reduceBNe, reduceCtorEq, Int.reduceNeg]
  first | refine vcCall.same (s89 N xs hn hx) ?_ | refine vcQCall.same (s89 N xs hn hx) ?_
  simp only [↓RP, RQ, if_true, if_false, cond_true, cond_false, vcBin, bne, ne_eq, vcRet, resAll, resA, retOf, Int.reduceEq, Int.reduceNe, Int.reduceLT, Int.reduceLE, Int.reduceGT, Int.reduceGE, Int.reduceBEq, Int.reduceBNe, Nat.reduceLT, Nat.reduceLeDiff, Nat.reduceAdd, Nat.reduceSub, Nat.reduceMul, Nat.reduceEqDiff, Nat.reduceBEq, Nat.reduceBNe, reduceCtorEq, Int.reduceNeg]
  first | refine vcIf.of (fun h1 => ?_) (fun h1 => ?_) | refine vcQIf.of (fun h1 => ?_) (fun h1 => ?_)
  · have ha : areDem xs = true := h1
    simp only [↓RP, RQ, if_true, if_false, cond_true, cond_false, vcBin, bne, ne_eq, vcRet, resAll, resA, retOf, Int.reduceEq, Int.reduceNe, Int.reduceLT, Int.reduceLE, Int.reduceGT, Int.reduceGE, Int.reduceBEq, Int.reduceBNe, Nat.reduceLT, Nat.reduceLeDiff, Nat.reduceAdd, Nat.reduceSub, Nat.reduceMul, Nat.reduceEqDiff, Nat.reduceBEq, Nat.reduceBNe, reduceCtorEq, Int.reduceNeg, h1, ha]
    first | refine vcCall.same (s98 N n) ?_ | refine vcQCall.same (s98 N n) ?_
    simp only [↓RP, RQ, if_true, if_false, cond_true, cond_false, vcBin, bne, ne_eq, vcRet, resAll, resA, retOf, Int.reduceEq, Int.reduceNe, Int.reduceLT, Int.reduceLE, Int.reduceGT, Int.reduceGE, Int.reduceBEq, Int.reduceBNe, Nat.reduceLT, Nat.reduceLeDiff, Nat.reduceAdd, Nat.reduceSub, Nat.reduceMul, Nat.reduceEqDiff, Nat.reduceBEq, Nat.reduceBNe, reduceCtorEq, Int.reduceNeg]
    first | refine vcIf.of (fun h2 => ?_) (fun h2 => ?_) | refine vcQIf.of (fun h2 => ?_) (fun h2 => ?_)
    · simp only [↓RP, RQ, if_true, if_false, cond_true, cond_false, vcBin, bne, ne_eq, vcRet, resAll, resA, retOf, Int.reduceEq, Int.reduceNe, Int.reduceLT, Int.reduceLE, Int.reduceGT, Int.reduceGE, Int.reduceBEq, Int.reduceBNe, Nat.reduceLT, Nat.reduceLeDiff, Nat.reduceAdd, Nat.reduceSub, Nat.reduceMul, Nat.reduceEqDiff, Nat.reduceBEq, Nat.reduceBNe, reduceCtorEq, Int.reduceNeg, h2]
    · simp only [↓RP, RQ, if_true, if_false, cond_true, cond_false, vcBin, bne, ne_eq, vcRet, resAll, resA, retOf, Int.reduceEq, Int.reduceNe, Int.reduceLT, Int.reduceLE, Int.reduceGT, Int.reduceGE, Int.reduceBEq, Int.reduceBNe, Nat.reduceLT, Nat.reduceLeDiff, Nat.reduceAdd, Nat.reduceSub, Nat.reduceMul, Nat.reduceEqDiff, Nat.reduceBEq, Nat.reduceBNe, reduceCtorEq, Int.reduceNeg, h2]
  · have ha : areDem xs = false := h1
    simp only [↓RP, RQ, if_true, if_false, cond_true, cond_false, vcBin, bne, ne_eq, vcRet, resAll, resA, retOf, Int.reduceEq, Int.reduceNe, Int.reduceLT, Int.reduceLE, Int.reduceGT, Int.reduceGE, Int.reduceBEq, Int.reduceBNe, Nat.reduceLT, Nat.reduceLeDiff, Nat.reduceAdd, Nat.reduceSub, Nat.reduceMul, Nat.reduceEqDiff, Nat.reduceBEq, Nat.reduceBNe, reduceCtorEq, Int.reduceNeg, h1, ha]
theorem s107 (N : Nat) (xs : List Dem) (hn : xs.length ≤ 1048576) (hx : ∀ x, x ∈ xs → x.ok) (n : Int) : Runs Try.prog 107 [.ro 3 (xs.map Dem.row), .v (.int .i64 n)] (emp N) fun r H' => r = .v (.int .i64 (bif areDem xs then (bif isAmt n then 0 else 2) else 1)) ∧ H' = emp N := by
  refine C107_fn ?_
  unfold C107
  simp only [↓RP, RQ, if_true, if_false, cond_true, cond_false, vcBin, bne, ne_eq, vcRet, resAll, resA, retOf, Int.reduceEq, Int.reduceNe, Int.reduceLT, Int.reduceLE, Int.reduceGT, Int.reduceGE, Int.reduceBEq, Int.reduceBNe, Nat.reduceLT, Nat.reduceLeDiff, Nat.reduceAdd, Nat.reduceSub, Nat.reduceMul, Nat.reduceEqDiff, Nat.reduceBEq, Nat.reduceBNe, reduceCtorEq, Int.reduceNeg]
  first | refine vcCall.same (s93 N xs hn hx) ?_ | refine vcQCall.same (s93 N xs hn hx) ?_
  simp only [↓RP, RQ, if_true, if_false, cond_true, cond_false, vcBin, bne, ne_eq, vcRet, resAll, resA, retOf, Int.reduceEq, Int.reduceNe, Int.reduceLT, Int.reduceLE, Int.reduceGT, Int.reduceGE, Int.reduceBEq, Int.reduceBNe, Nat.reduceLT, Nat.reduceLeDiff, Nat.reduceAdd, Nat.reduceSub, Nat.reduceMul, Nat.reduceEqDiff, Nat.reduceBEq, Nat.reduceBNe, reduceCtorEq, Int.reduceNeg]
  first | refine vcIf.of (fun h1 => ?_) (fun h1 => ?_) | refine vcQIf.of (fun h1 => ?_) (fun h1 => ?_)
  · have ha : areDem xs = true := h1
    simp only [↓RP, RQ, if_true, if_false, cond_true, cond_false, vcBin, bne, ne_eq, vcRet, resAll, resA, retOf, Int.reduceEq, Int.reduceNe, Int.reduceLT, Int.reduceLE, Int.reduceGT, Int.reduceGE, Int.reduceBEq, Int.reduceBNe, Nat.reduceLT, Nat.reduceLeDiff, Nat.reduceAdd, Nat.reduceSub, Nat.reduceMul, Nat.reduceEqDiff, Nat.reduceBEq, Nat.reduceBNe, reduceCtorEq, Int.reduceNeg, h1, ha]
    first | refine vcCall.same (s100 N n) ?_ | refine vcQCall.same (s100 N n) ?_
    simp only [↓RP, RQ, if_true, if_false, cond_true, cond_false, vcBin, bne, ne_eq, vcRet, resAll, resA, retOf, Int.reduceEq, Int.reduceNe, Int.reduceLT, Int.reduceLE, Int.reduceGT, Int.reduceGE, Int.reduceBEq, Int.reduceBNe, Nat.reduceLT, Nat.reduceLeDiff, Nat.reduceAdd, Nat.reduceSub, Nat.reduceMul, Nat.reduceEqDiff, Nat.reduceBEq, Nat.reduceBNe, reduceCtorEq, Int.reduceNeg]
    first | refine vcIf.of (fun h2 => ?_) (fun h2 => ?_) | refine vcQIf.of (fun h2 => ?_) (fun h2 => ?_)
    · simp only [↓RP, RQ, if_true, if_false, cond_true, cond_false, vcBin, bne, ne_eq, vcRet, resAll, resA, retOf, Int.reduceEq, Int.reduceNe, Int.reduceLT, Int.reduceLE, Int.reduceGT, Int.reduceGE, Int.reduceBEq, Int.reduceBNe, Nat.reduceLT, Nat.reduceLeDiff, Nat.reduceAdd, Nat.reduceSub, Nat.reduceMul, Nat.reduceEqDiff, Nat.reduceBEq, Nat.reduceBNe, reduceCtorEq, Int.reduceNeg, h2]
    · simp only [↓RP, RQ, if_true, if_false, cond_true, cond_false, vcBin, bne, ne_eq, vcRet, resAll, resA, retOf, Int.reduceEq, Int.reduceNe, Int.reduceLT, Int.reduceLE, Int.reduceGT, Int.reduceGE, Int.reduceBEq, Int.reduceBNe, Nat.reduceLT, Nat.reduceLeDiff, Nat.reduceAdd, Nat.reduceSub, Nat.reduceMul, Nat.reduceEqDiff, Nat.reduceBEq, Nat.reduceBNe, reduceCtorEq, Int.reduceNeg, h2]
  · have ha : areDem xs = false := h1
    simp only [↓RP, RQ, if_true, if_false, cond_true, cond_false, vcBin, bne, ne_eq, vcRet, resAll, resA, retOf, Int.reduceEq, Int.reduceNe, Int.reduceLT, Int.reduceLE, Int.reduceGT, Int.reduceGE, Int.reduceBEq, Int.reduceBNe, Nat.reduceLT, Nat.reduceLeDiff, Nat.reduceAdd, Nat.reduceSub, Nat.reduceMul, Nat.reduceEqDiff, Nat.reduceBEq, Nat.reduceBNe, reduceCtorEq, Int.reduceNeg, h1, ha]
theorem areDem_good {xs : List Dem} (h : areDem xs = true) : xs.length ≤ 12 ∧ ∀ x, x ∈ xs → x.good = true := by
  simp only [areDem, chk_eq, Bool.and_eq_true, decide_eq_true_eq, List.all_eq_true] at h
  exact ⟨by omega, h.1.1⟩
theorem good_amt {x : Dem} (h : x.good = true) : isAmt x.asked = true ∧ isRk x.rank = true := by
  simp only [Dem.good, Bool.and_eq_true] at h
  exact ⟨h.2, h.1.2⟩
end Go.Proofs.Ytbgnlnlgjmipfaa
