/- Contracts about diaries, and the law of their form. -/
import Derived.Test.YtpaflfaokgapgaaK0
import Derived.Test.YtpaflfaokgapgaaK1
import Derived.Test.YtpaflfaokgapgaaN1
import Derived.Test.YtpaflfaokgapgaaSM
set_option linter.unusedVariables false
set_option linter.unusedSimpArgs false
namespace Go.Proofs.Ytpaflfaokgapgaa
open Go.Abs
structure Ntc where
  party : ByteArray
  sent : Int
  days : Int
  done : Int
def Ntc.row (s : Ntc) : List AV := [.v (.string s.party), .v (.int .i64 s.sent), .v (.int .i64 s.days), .v (.int .i64 s.done)]
def Ntc.sz (s : Ntc) (l : Int) : Int := szStr s.party.size l fun l => l
def Ntc.wf (s : Ntc) : Prop := s.party.size ≤ maxLen ∧ (Lit.int .i64 s.sent).wf = true ∧ (Lit.int .i64 s.days).wf = true ∧ (Lit.int .i64 s.done).wf = true
def Ntc.ok (s : Ntc) : Prop := s.party.size ≤ 1048576 ∧ (-9223372036854775808 ≤ s.sent ∧ s.sent < 9223372036854775808) ∧ (-9223372036854775808 ≤ s.days ∧ s.days < 9223372036854775808) ∧ (-9223372036854775808 ≤ s.done ∧ s.done < 9223372036854775808)
theorem Ntc.of (r : List AV) (h : RowOk [.str, .int .i64, .int .i64, .int .i64] r) : ∃ x, r = Ntc.row x ∧ x.wf := by
  obtain ⟨a0, r0, rfl, h0, k0⟩ := row_cons h
  obtain ⟨x0, rfl, w0⟩ := leaf_str h0
  obtain ⟨a1, r1, rfl, h1, k1⟩ := row_cons k0
  obtain ⟨x1, rfl, w1⟩ := leaf_int h1
  obtain ⟨a2, r2, rfl, h2, k2⟩ := row_cons k1
  obtain ⟨x2, rfl, w2⟩ := leaf_int h2
  obtain ⟨a3, r3, rfl, h3, k3⟩ := row_cons k2
  obtain ⟨x3, rfl, w3⟩ := leaf_int h3
  obtain rfl := row_nil k3
  exact ⟨⟨x0, x1, x2, x3⟩, rfl, w0, w1, w2, w3⟩
theorem Ntc.fit (s : Ntc) (l : Int) (w : s.wf) (hl : 0 ≤ l) (hl' : l ≤ 1048576) (h : 0 ≤ s.sz l) : s.ok ∧ s.sz l ≤ l := by
  obtain ⟨w0, w1, w2, w3⟩ := w
  unfold Ntc.sz at h ⊢
  have e0 := szStr_fit w0 hl hl' h
  rw [e0.2.1] at h ⊢
  exact ⟨⟨e0.1, wf_i64 w1, wf_i64 w2, wf_i64 w3⟩, by omega⟩
theorem Ntc.nr (s : Ntc) : ∀ a, a ∈ s.row → NoRef a := (norefs_cons (.v _) (norefs_cons (.v _) (norefs_cons (.v _) (norefs_cons (.v _) norefs_nil))))
theorem Ntc.no (s : Ntc) : ∀ a, a ∈ s.row → NoRo a := (noros_cons (.v _) (noros_cons (.v _) (noros_cons (.v _) (noros_cons (.v _) noros_nil))))
theorem s70 (N : Nat) (s : Ntc) (l : Int) : Runs Try.prog 70 [.agg s.row, .v (.int .i64 l)] (emp N) fun r H' => r = .v (.int .i64 (s.sz l)) ∧ H' = emp N := by
  refine Runs.fin0 (Q := fun r H' => r = .v (.int .i64 (s.sz l))) ?_ (fun r H' h => by rw [h]; exact .same _ (.inl rfl)) (.v _)
  refine C70_fn ?_
  unfold C70
  simp only [↓RP, RQ, if_true, if_false, cond_true, cond_false, vcBin, bne, ne_eq, vcRet, resAll, resA, retOf, Int.reduceEq, Int.reduceNe, Int.reduceLT, Int.reduceLE, Int.reduceGT, Int.reduceGE, Int.reduceBEq, Int.reduceBNe, Nat.reduceLT, Nat.reduceLeDiff, Nat.reduceAdd, Nat.reduceSub, Nat.reduceMul, Nat.reduceEqDiff, Nat.reduceBEq, Nat.reduceBNe, reduceCtorEq, Int.reduceNeg, Ntc.row]
  refine vcIf.dec (fun h0 => ?_) (fun h0 => ?_)
  · simp only [↓RP, RQ, if_true, if_false, cond_true, cond_false, vcBin, bne, ne_eq, vcRet, resAll, resA, retOf, Int.reduceEq, Int.reduceNe, Int.reduceLT, Int.reduceLE, Int.reduceGT, Int.reduceGE, Int.reduceBEq, Int.reduceBNe, Nat.reduceLT, Nat.reduceLeDiff, Nat.reduceAdd, Nat.reduceSub, Nat.reduceMul, Nat.reduceEqDiff, Nat.reduceBEq, Nat.reduceBNe, reduceCtorEq, Int.reduceNeg, Ntc.sz, szStr, h0]
  · simp only [↓RP, RQ, if_true, if_false, cond_true, cond_false, vcBin, bne, ne_eq, vcRet, resAll, resA, retOf, Int.reduceEq, Int.reduceNe, Int.reduceLT, Int.reduceLE, Int.reduceGT, Int.reduceGE, Int.reduceBEq, Int.reduceBNe, Nat.reduceLT, Nat.reduceLeDiff, Nat.reduceAdd, Nat.reduceSub, Nat.reduceMul, Nat.reduceEqDiff, Nat.reduceBEq, Nat.reduceBNe, reduceCtorEq, Int.reduceNeg, Ntc.sz, szStr, h0]
theorem s75 (N : Nat) (s : Ntc) : Runs Try.prog 75 [.agg s.row] (emp N) fun r H' => r = .agg s.row ∧ H' = emp N := by
  refine Runs.fin0 (Q := fun r H' => r = .agg s.row) ?_ (fun r H' h => by rw [h]; exact .same _ (.inl rfl)) (.agg _ s.nr)
  refine C75_fn ?_
  unfold C75
  simp only [↓RP, RQ, if_true, if_false, cond_true, cond_false, vcBin, bne, ne_eq, vcRet, resAll, resA, retOf, Int.reduceEq, Int.reduceNe, Int.reduceLT, Int.reduceLE, Int.reduceGT, Int.reduceGE, Int.reduceBEq, Int.reduceBNe, Nat.reduceLT, Nat.reduceLeDiff, Nat.reduceAdd, Nat.reduceSub, Nat.reduceMul, Nat.reduceEqDiff, Nat.reduceBEq, Nat.reduceBNe, reduceCtorEq, Int.reduceNeg, Ntc.row]
theorem s80 (N : Nat) (s : Ntc) : Runs Try.prog 80 [.agg s.row, .agg s.row] (emp N) fun r H' => r = .v (.bool true) ∧ H' = emp N := by
  refine Runs.fin0 (Q := fun r H' => r = .v (.bool true)) ?_ (fun r H' h => by rw [h]; exact .same _ (.inl rfl)) (.v _)
  refine C80_fn ?_
  unfold C80
  simp only [↓RP, RQ, if_true, if_false, cond_true, cond_false, vcBin, bne, ne_eq, vcRet, resAll, resA, retOf, Int.reduceEq, Int.reduceNe, Int.reduceLT, Int.reduceLE, Int.reduceGT, Int.reduceGE, Int.reduceBEq, Int.reduceBNe, Nat.reduceLT, Nat.reduceLeDiff, Nat.reduceAdd, Nat.reduceSub, Nat.reduceMul, Nat.reduceEqDiff, Nat.reduceBEq, Nat.reduceBNe, reduceCtorEq, Int.reduceNeg, Ntc.row, str_refl, int_refl, boo_refl]
theorem s15 (N : Nat) (xs : List Ntc) (l : Int) (hn : xs.length ≤ maxLen) : Runs Try.prog 15 [.ro 4 (xs.map Ntc.row), .v (.int .i64 l)] (emp N) fun r H' => r = .v (.int .i64 (szS Ntc.sz xs l)) ∧ H' = emp N := by
  refine C15_fn ?_
  unfold C15
  simp only [↓RP, RQ, if_true, if_false, cond_true, cond_false, vcBin, bne, ne_eq, vcRet, resAll, resA, retOf, Int.reduceEq, Int.reduceNe, Int.reduceLT, Int.reduceLE, Int.reduceGT, Int.reduceGE, Int.reduceBEq, Int.reduceBNe, Nat.reduceLT, Nat.reduceLeDiff, Nat.reduceAdd, Nat.reduceSub, Nat.reduceMul, Nat.reduceEqDiff, Nat.reduceBEq, Nat.reduceBNe, reduceCtorEq, Int.reduceNeg, len_map]
  refine vcIf.dec (fun h => ?_) (fun h => ?_)
  · simp only [↓RP, RQ, if_true, if_false, cond_true, cond_false, vcBin, bne, ne_eq, vcRet, resAll, resA, retOf, Int.reduceEq, Int.reduceNe, Int.reduceLT, Int.reduceLE, Int.reduceGT, Int.reduceGE, Int.reduceBEq, Int.reduceBNe, Nat.reduceLT, Nat.reduceLeDiff, Nat.reduceAdd, Nat.reduceSub, Nat.reduceMul, Nat.reduceEqDiff, Nat.reduceBEq, Nat.reduceBNe, reduceCtorEq, Int.reduceNeg, szS, h]
  · simp only [↓RP, RQ, if_true, if_false, cond_true, cond_false, vcBin, bne, ne_eq, vcRet, resAll, resA, retOf, Int.reduceEq, Int.reduceNe, Int.reduceLT, Int.reduceLE, Int.reduceGT, Int.reduceGE, Int.reduceBEq, Int.reduceBNe, Nat.reduceLT, Nat.reduceLeDiff, Nat.reduceAdd, Nat.reduceSub, Nat.reduceMul, Nat.reduceEqDiff, Nat.reduceBEq, Nat.reduceBNe, reduceCtorEq, Int.reduceNeg]
    have hs : szS Ntc.sz xs l = szGo Ntc.sz xs (IntKind.i64.wrap (l - xs.length)) := if_neg h
    generalize IntKind.i64.wrap (l - xs.length) = l0 at *
    refine vcLoop.st (σ := Nat × Int) (0, l0) (fun s => s.1 ≤ xs.length ∧ szGo Ntc.sz (xs.drop s.1) s.2 = szGo Ntc.sz xs l0) (fun s => xs.length - s.1) (fun _ => hl N [])
      (fun s => [.ro 4 (xs.map Ntc.row), .v (.int .i64 s.2), .any, .any, .any, .v (.int .i64 s.1), .any, .any, .any, .any, .any, .any, .any, .any, .any, .any, .any, .any, .any, .any, .any, .any, .any, .any, .any, .any, .any]) ⟨Nat.zero_le _, rfl⟩ (Dr.refl _) (by simp only [↓RP, RQ, if_true, if_false, cond_true, cond_false, vcBin, bne, ne_eq, vcRet, resAll, resA, retOf, Int.reduceEq, Int.reduceNe, Int.reduceLT, Int.reduceLE, Int.reduceGT, Int.reduceGE, Int.reduceBEq, Int.reduceBNe, Nat.reduceLT, Nat.reduceLeDiff, Nat.reduceAdd, Nat.reduceSub, Nat.reduceMul, Nat.reduceEqDiff, Nat.reduceBEq, Nat.reduceBNe, reduceCtorEq, Int.reduceNeg]) ?_
    rintro ⟨i, lf⟩ ⟨hi, hg⟩
    simp only [↓RP, RQ, if_true, if_false, cond_true, cond_false, vcBin, bne, ne_eq, vcRet, resAll, resA, retOf, Int.reduceEq, Int.reduceNe, Int.reduceLT, Int.reduceLE, Int.reduceGT, Int.reduceGE, Int.reduceBEq, Int.reduceBNe, Nat.reduceLT, Nat.reduceLeDiff, Nat.reduceAdd, Nat.reduceSub, Nat.reduceMul, Nat.reduceEqDiff, Nat.reduceBEq, Nat.reduceBNe, reduceCtorEq, Int.reduceNeg, len_map]
    refine vcIf.dec (fun h' => ?_) (fun h' => ?_)
    · have hlt : i < xs.length := by simpa using h'
      obtain ⟨x, hx0, hx, hd⟩ := at_i Ntc.row xs hlt
      rw [hd] at hg
      simp only [↓RP, RQ, if_true, if_false, cond_true, cond_false, vcBin, bne, ne_eq, vcRet, resAll, resA, retOf, Int.reduceEq, Int.reduceNe, Int.reduceLT, Int.reduceLE, Int.reduceGT, Int.reduceGE, Int.reduceBEq, Int.reduceBNe, Nat.reduceLT, Nat.reduceLeDiff, Nat.reduceAdd, Nat.reduceSub, Nat.reduceMul, Nat.reduceEqDiff, Nat.reduceBEq, Nat.reduceBNe, reduceCtorEq, Int.reduceNeg, len_map, nn, tn, lt_cast hlt, hx, Ntc.row]
      refine vcCall.same (s70 N x _) ?_
      simp only [↓RP, RQ, if_true, if_false, cond_true, cond_false, vcBin, bne, ne_eq, vcRet, resAll, resA, retOf, Int.reduceEq, Int.reduceNe, Int.reduceLT, Int.reduceLE, Int.reduceGT, Int.reduceGE, Int.reduceBEq, Int.reduceBNe, Nat.reduceLT, Nat.reduceLeDiff, Nat.reduceAdd, Nat.reduceSub, Nat.reduceMul, Nat.reduceEqDiff, Nat.reduceBEq, Nat.reduceBNe, reduceCtorEq, Int.reduceNeg]
      refine vcIf.dec (fun h3 => ?_) (fun h3 => ?_)
      · simp only [↓RP, RQ, if_true, if_false, cond_true, cond_false, vcBin, bne, ne_eq, vcRet, resAll, resA, retOf, Int.reduceEq, Int.reduceNe, Int.reduceLT, Int.reduceLE, Int.reduceGT, Int.reduceGE, Int.reduceBEq, Int.reduceBNe, Nat.reduceLT, Nat.reduceLeDiff, Nat.reduceAdd, Nat.reduceSub, Nat.reduceMul, Nat.reduceEqDiff, Nat.reduceBEq, Nat.reduceBNe, reduceCtorEq, Int.reduceNeg]
        rw [hs, ← hg, szGo, if_pos h3]
      · simp only [↓RP, RQ, if_true, if_false, cond_true, cond_false, vcBin, bne, ne_eq, vcRet, resAll, resA, retOf, Int.reduceEq, Int.reduceNe, Int.reduceLT, Int.reduceLE, Int.reduceGT, Int.reduceGE, Int.reduceBEq, Int.reduceBNe, Nat.reduceLT, Nat.reduceLeDiff, Nat.reduceAdd, Nat.reduceSub, Nat.reduceMul, Nat.reduceEqDiff, Nat.reduceBEq, Nat.reduceBNe, reduceCtorEq, Int.reduceNeg, w_succ hlt hn]
        refine ⟨(i + 1, x.sz lf), by show xs.length - (i + 1) < xs.length - i; omega, ⟨hlt, ?_⟩, by simp only [↓RP, RQ, if_true, if_false, cond_true, cond_false, vcBin, bne, ne_eq, vcRet, resAll, resA, retOf, Int.reduceEq, Int.reduceNe, Int.reduceLT, Int.reduceLE, Int.reduceGT, Int.reduceGE, Int.reduceBEq, Int.reduceBNe, Nat.reduceLT, Nat.reduceLeDiff, Nat.reduceAdd, Nat.reduceSub, Nat.reduceMul, Nat.reduceEqDiff, Nat.reduceBEq, Nat.reduceBNe, reduceCtorEq, Int.reduceNeg]⟩
        rw [szGo, if_neg h3] at hg
        exact hg
    · have hge : i = xs.length := by simp at h'; omega
      subst hge
      simp only [↓RP, RQ, if_true, if_false, cond_true, cond_false, vcBin, bne, ne_eq, vcRet, resAll, resA, retOf, Int.reduceEq, Int.reduceNe, Int.reduceLT, Int.reduceLE, Int.reduceGT, Int.reduceGE, Int.reduceBEq, Int.reduceBNe, Nat.reduceLT, Nat.reduceLeDiff, Nat.reduceAdd, Nat.reduceSub, Nat.reduceMul, Nat.reduceEqDiff, Nat.reduceBEq, Nat.reduceBNe, reduceCtorEq, Int.reduceNeg]
      rw [hs, ← hg, List.drop_length]
      rfl
theorem q17 (N : Nat) (xs : List Ntc) (hn : xs.length ≤ 1048576) : Runs Try.prog 17 [.ro 4 (xs.map Ntc.row)] (emp N) (Got1 4 (xs.map Ntc.row)) := by
  refine Runs.mono (Q := fun r H' => r = .own N xs.length ∧ H'.m N = some ⟨4, xs.map Ntc.row⟩) ?_ (fun r H' h => ⟨N, by rw [h.1, len_map], h.2⟩)
  refine C17_fn ?_
  unfold C17
  simp only [↓RP, RQ, if_true, if_false, cond_true, cond_false, vcBin, bne, ne_eq, vcRet, resAll, resA, retOf, Int.reduceEq, Int.reduceNe, Int.reduceLT, Int.reduceLE, Int.reduceGT, Int.reduceGE, Int.reduceBEq, Int.reduceBNe, Nat.reduceLT, Nat.reduceLeDiff, Nat.reduceAdd, Nat.reduceSub, Nat.reduceMul, Nat.reduceEqDiff, Nat.reduceBEq, Nat.reduceBNe, reduceCtorEq, Int.reduceNeg, len_map, nn, tn]
  refine ⟨by omega, ?_⟩
  have hm : xs.length ≤ maxLen := by have : maxLen = 9223372036854775807 := rfl; omega
  refine vcLoop.st (σ := Nat) 0 (fun i => i ≤ xs.length) (fun i => xs.length - i) (fun i => hl (N + 1) [(N, some ⟨4, fillR Ntc.row xs [.v (.string ⟨#[]⟩), .v (.int .i64 0), .v (.int .i64 0), .v (.int .i64 0)] i⟩)])
    (fun i => [.ro 4 (xs.map Ntc.row), .any, .any, .own N xs.length, .v (.int .i64 i), .any, .any, .any, .any, .any, .any, .any, .any, .any, .any, .any, .any, .any, .any, .any, .any, .any, .any]) (Nat.zero_le _) (Dr.refl _) (by simp only [↓RP, RQ, if_true, if_false, cond_true, cond_false, vcBin, bne, ne_eq, vcRet, resAll, resA, retOf, Int.reduceEq, Int.reduceNe, Int.reduceLT, Int.reduceLE, Int.reduceGT, Int.reduceGE, Int.reduceBEq, Int.reduceBNe, Nat.reduceLT, Nat.reduceLeDiff, Nat.reduceAdd, Nat.reduceSub, Nat.reduceMul, Nat.reduceEqDiff, Nat.reduceBEq, Nat.reduceBNe, reduceCtorEq, Int.reduceNeg]) ?_
  intro i hi
  simp only [↓RP, RQ, if_true, if_false, cond_true, cond_false, vcBin, bne, ne_eq, vcRet, resAll, resA, retOf, Int.reduceEq, Int.reduceNe, Int.reduceLT, Int.reduceLE, Int.reduceGT, Int.reduceGE, Int.reduceBEq, Int.reduceBNe, Nat.reduceLT, Nat.reduceLeDiff, Nat.reduceAdd, Nat.reduceSub, Nat.reduceMul, Nat.reduceEqDiff, Nat.reduceBEq, Nat.reduceBNe, reduceCtorEq, Int.reduceNeg, len_map]
  refine vcIf.dec (fun h' => ?_) (fun h' => ?_)
  · have hlt : i < xs.length := by simpa using h'
    obtain ⟨x, hx0, hx, hd⟩ := at_i Ntc.row xs hlt
    simp only [↓RP, RQ, if_true, if_false, cond_true, cond_false, vcBin, bne, ne_eq, vcRet, resAll, resA, retOf, Int.reduceEq, Int.reduceNe, Int.reduceLT, Int.reduceLE, Int.reduceGT, Int.reduceGE, Int.reduceBEq, Int.reduceBNe, Nat.reduceLT, Nat.reduceLeDiff, Nat.reduceAdd, Nat.reduceSub, Nat.reduceMul, Nat.reduceEqDiff, Nat.reduceBEq, Nat.reduceBNe, reduceCtorEq, Int.reduceNeg, len_map, nn, tn, lt_cast hlt, hx, Ntc.row]
    refine vcCall.same (Runs.pure (s75 (N + 1) x) (Fzl.same _) (.agg _ x.no)) ?_
    simp only [↓RP, RQ, if_true, if_false, cond_true, cond_false, vcBin, bne, ne_eq, vcRet, resAll, resA, retOf, Int.reduceEq, Int.reduceNe, Int.reduceLT, Int.reduceLE, Int.reduceGT, Int.reduceGE, Int.reduceBEq, Int.reduceBNe, Nat.reduceLT, Nat.reduceLeDiff, Nat.reduceAdd, Nat.reduceSub, Nat.reduceMul, Nat.reduceEqDiff, Nat.reduceBEq, Nat.reduceBNe, reduceCtorEq, Int.reduceNeg, len_map, nn, tn, lt_cast hlt, fillR_len Ntc.row xs [.v (.string ⟨#[]⟩), .v (.int .i64 0), .v (.int .i64 0), .v (.int .i64 0)] hi, hlt, fillR_at Ntc.row xs [.v (.string ⟨#[]⟩), .v (.int .i64 0), .v (.int .i64 0), .v (.int .i64 0)] hlt, Ntc.row]
    simp only [↓RP, RQ, if_true, if_false, cond_true, cond_false, vcBin, bne, ne_eq, vcRet, resAll, resA, retOf, Int.reduceEq, Int.reduceNe, Int.reduceLT, Int.reduceLE, Int.reduceGT, Int.reduceGE, Int.reduceBEq, Int.reduceBNe, Nat.reduceLT, Nat.reduceLeDiff, Nat.reduceAdd, Nat.reduceSub, Nat.reduceMul, Nat.reduceEqDiff, Nat.reduceBEq, Nat.reduceBNe, reduceCtorEq, Int.reduceNeg, w_succ hlt hm]
    exact ⟨i + 1, by omega, hlt, by simp only [↓RP, RQ, if_true, if_false, cond_true, cond_false, vcBin, bne, ne_eq, vcRet, resAll, resA, retOf, Int.reduceEq, Int.reduceNe, Int.reduceLT, Int.reduceLE, Int.reduceGT, Int.reduceGE, Int.reduceBEq, Int.reduceBNe, Nat.reduceLT, Nat.reduceLeDiff, Nat.reduceAdd, Nat.reduceSub, Nat.reduceMul, Nat.reduceEqDiff, Nat.reduceBEq, Nat.reduceBNe, reduceCtorEq, Int.reduceNeg, ← fillR_set Ntc.row xs [.v (.string ⟨#[]⟩), .v (.int .i64 0), .v (.int .i64 0), .v (.int .i64 0)] hlt hx0, Ntc.row], by simp only [↓RP, RQ, if_true, if_false, cond_true, cond_false, vcBin, bne, ne_eq, vcRet, resAll, resA, retOf, Int.reduceEq, Int.reduceNe, Int.reduceLT, Int.reduceLE, Int.reduceGT, Int.reduceGE, Int.reduceBEq, Int.reduceBNe, Nat.reduceLT, Nat.reduceLeDiff, Nat.reduceAdd, Nat.reduceSub, Nat.reduceMul, Nat.reduceEqDiff, Nat.reduceBEq, Nat.reduceBNe, reduceCtorEq, Int.reduceNeg]⟩
  · have hge : i = xs.length := by simp at h'; omega
    subst hge
    simp only [↓RP, RQ, if_true, if_false, cond_true, cond_false, vcBin, bne, ne_eq, vcRet, resAll, resA, retOf, Int.reduceEq, Int.reduceNe, Int.reduceLT, Int.reduceLE, Int.reduceGT, Int.reduceGE, Int.reduceBEq, Int.reduceBNe, Nat.reduceLT, Nat.reduceLeDiff, Nat.reduceAdd, Nat.reduceSub, Nat.reduceMul, Nat.reduceEqDiff, Nat.reduceBEq, Nat.reduceBNe, reduceCtorEq, Int.reduceNeg, fillR_end]
theorem s17 (N : Nat) (xs : List Ntc) (hn : xs.length ≤ 1048576) : Runs Try.prog 17 [.ro 4 (xs.map Ntc.row)] (emp N) fun r H' => r = .ro 4 (xs.map Ntc.row) ∧ H' = emp N := Got1.ro (q17 N xs hn) (norefs_map Ntc.nr xs)
theorem o17 (H : Heap) (xs : List Ntc) (hn : xs.length ≤ 1048576) : Runs Try.prog 17 [.ro 4 (xs.map Ntc.row)] H fun r H' => r = .own H.nx xs.length ∧ H' = H.alloc ⟨4, xs.map Ntc.row⟩ := by
  have h := Got1.at (q17 H.nx xs hn) (Fzl.same _) (norefs_map Ntc.nr xs) (noros_map Ntc.no xs)
  rw [len_map] at h; exact h
theorem s19 (N : Nat) (xs : List Ntc) (hn : xs.length ≤ 1048576) : Runs Try.prog 19 [.ro 4 (xs.map Ntc.row), .ro 4 (xs.map Ntc.row)] (emp N) fun r H' => r = .v (.bool true) ∧ H' = emp N := by
  have hm : xs.length ≤ maxLen := by have : maxLen = 9223372036854775807 := rfl; omega
  refine C19_fn ?_
  unfold C19
  simp only [↓RP, RQ, if_true, if_false, cond_true, cond_false, vcBin, bne, ne_eq, vcRet, resAll, resA, retOf, Int.reduceEq, Int.reduceNe, Int.reduceLT, Int.reduceLE, Int.reduceGT, Int.reduceGE, Int.reduceBEq, Int.reduceBNe, Nat.reduceLT, Nat.reduceLeDiff, Nat.reduceAdd, Nat.reduceSub, Nat.reduceMul, Nat.reduceEqDiff, Nat.reduceBEq, Nat.reduceBNe, reduceCtorEq, Int.reduceNeg, len_map, int_refl]
  refine vcLoop.st (σ := Nat) 0 (fun i => i ≤ xs.length) (fun i => xs.length - i) (fun i => hl N [])
    (fun i => [.ro 4 (xs.map Ntc.row), .ro 4 (xs.map Ntc.row), .any, .any, .any, .v (.int .i64 i), .any, .any, .any, .any, .any, .any, .any, .any, .any, .any, .any, .any, .any, .any, .any, .any, .any, .any, .any, .any, .any]) (Nat.zero_le _) (Dr.refl _) (by simp only [↓RP, RQ, if_true, if_false, cond_true, cond_false, vcBin, bne, ne_eq, vcRet, resAll, resA, retOf, Int.reduceEq, Int.reduceNe, Int.reduceLT, Int.reduceLE, Int.reduceGT, Int.reduceGE, Int.reduceBEq, Int.reduceBNe, Nat.reduceLT, Nat.reduceLeDiff, Nat.reduceAdd, Nat.reduceSub, Nat.reduceMul, Nat.reduceEqDiff, Nat.reduceBEq, Nat.reduceBNe, reduceCtorEq, Int.reduceNeg]) ?_
  intro i hi
  simp only [↓RP, RQ, if_true, if_false, cond_true, cond_false, vcBin, bne, ne_eq, vcRet, resAll, resA, retOf, Int.reduceEq, Int.reduceNe, Int.reduceLT, Int.reduceLE, Int.reduceGT, Int.reduceGE, Int.reduceBEq, Int.reduceBNe, Nat.reduceLT, Nat.reduceLeDiff, Nat.reduceAdd, Nat.reduceSub, Nat.reduceMul, Nat.reduceEqDiff, Nat.reduceBEq, Nat.reduceBNe, reduceCtorEq, Int.reduceNeg, len_map]
  refine vcIf.dec (fun h' => ?_) (fun h' => ?_)
  · have hlt : i < xs.length := by simpa using h'
    obtain ⟨x, hx0, hx, hd⟩ := at_i Ntc.row xs hlt
    simp only [↓RP, RQ, if_true, if_false, cond_true, cond_false, vcBin, bne, ne_eq, vcRet, resAll, resA, retOf, Int.reduceEq, Int.reduceNe, Int.reduceLT, Int.reduceLE, Int.reduceGT, Int.reduceGE, Int.reduceBEq, Int.reduceBNe, Nat.reduceLT, Nat.reduceLeDiff, Nat.reduceAdd, Nat.reduceSub, Nat.reduceMul, Nat.reduceEqDiff, Nat.reduceBEq, Nat.reduceBNe, reduceCtorEq, Int.reduceNeg, len_map, nn, tn, lt_cast hlt, hx, Ntc.row]
    refine vcQCall.same (s80 N x) ?_
    simp only [↓RP, RQ, if_true, if_false, cond_true, cond_false, vcBin, bne, ne_eq, vcRet, resAll, resA, retOf, Int.reduceEq, Int.reduceNe, Int.reduceLT, Int.reduceLE, Int.reduceGT, Int.reduceGE, Int.reduceBEq, Int.reduceBNe, Nat.reduceLT, Nat.reduceLeDiff, Nat.reduceAdd, Nat.reduceSub, Nat.reduceMul, Nat.reduceEqDiff, Nat.reduceBEq, Nat.reduceBNe, reduceCtorEq, Int.reduceNeg, w_succ hlt hm]
    exact ⟨i + 1, by omega, hlt, by simp only [↓RP, RQ, if_true, if_false, cond_true, cond_false, vcBin, bne, ne_eq, vcRet, resAll, resA, retOf, Int.reduceEq, Int.reduceNe, Int.reduceLT, Int.reduceLE, Int.reduceGT, Int.reduceGE, Int.reduceBEq, Int.reduceBNe, Nat.reduceLT, Nat.reduceLeDiff, Nat.reduceAdd, Nat.reduceSub, Nat.reduceMul, Nat.reduceEqDiff, Nat.reduceBEq, Nat.reduceBNe, reduceCtorEq, Int.reduceNeg]⟩
  · simp only [↓RP, RQ, if_true, if_false, cond_true, cond_false, vcBin, bne, ne_eq, vcRet, resAll, resA, retOf, Int.reduceEq, Int.reduceNe, Int.reduceLT, Int.reduceLE, Int.reduceGT, Int.reduceGE, Int.reduceBEq, Int.reduceBNe, Nat.reduceLT, Nat.reduceLeDiff, Nat.reduceAdd, Nat.reduceSub, Nat.reduceMul, Nat.reduceEqDiff, Nat.reduceBEq, Nat.reduceBNe, reduceCtorEq, Int.reduceNeg]
theorem s145 (N : Nat) (xs : List Ntc) (hn : xs.length ≤ 1048576) (p : Ntc → Bool) (g : Nat) (caps : List AV) (hp : ∀ x, x ∈ xs → Runs Try.prog g (.agg x.row :: caps) (emp N) fun r H' => r = .v (.bool (p x)) ∧ H' = emp N) :
    Runs Try.prog 145 [.ro 4 (xs.map Ntc.row), .fn g caps] (emp N) fun r H' => r = .v (.int .i64 (idx p xs 0)) ∧ H' = emp N := by
  have hm : xs.length ≤ maxLen := by have : maxLen = 9223372036854775807 := rfl; omega
  refine C145_fn ?_
  unfold C145
  simp only [↓RP, RQ, if_true, if_false, cond_true, cond_false, vcBin, bne, ne_eq, vcRet, resAll, resA, retOf, Int.reduceEq, Int.reduceNe, Int.reduceLT, Int.reduceLE, Int.reduceGT, Int.reduceGE, Int.reduceBEq, Int.reduceBNe, Nat.reduceLT, Nat.reduceLeDiff, Nat.reduceAdd, Nat.reduceSub, Nat.reduceMul, Nat.reduceEqDiff, Nat.reduceBEq, Nat.reduceBNe, reduceCtorEq, Int.reduceNeg, len_map]
  refine vcLoop.st (σ := Nat) 0 (fun i => i ≤ xs.length ∧ idx p xs 0 = idx p (xs.drop i) i) (fun i => xs.length - i) (fun i => hl N [])
    (fun i => [.ro 4 (xs.map Ntc.row), .fn g caps, .any, .any, .any, .any, .any, .v (.int .i64 xs.length), .v (.int .i64 i), .any, .any, .any, .any, .any, .any, .any, .any, .any, .any]) ⟨Nat.zero_le _, rfl⟩ (Dr.refl _) (by simp only [↓RP, RQ, if_true, if_false, cond_true, cond_false, vcBin, bne, ne_eq, vcRet, resAll, resA, retOf, Int.reduceEq, Int.reduceNe, Int.reduceLT, Int.reduceLE, Int.reduceGT, Int.reduceGE, Int.reduceBEq, Int.reduceBNe, Nat.reduceLT, Nat.reduceLeDiff, Nat.reduceAdd, Nat.reduceSub, Nat.reduceMul, Nat.reduceEqDiff, Nat.reduceBEq, Nat.reduceBNe, reduceCtorEq, Int.reduceNeg]) ?_
  rintro i ⟨hi, hg⟩
  simp only [↓RP, RQ, if_true, if_false, cond_true, cond_false, vcBin, bne, ne_eq, vcRet, resAll, resA, retOf, Int.reduceEq, Int.reduceNe, Int.reduceLT, Int.reduceLE, Int.reduceGT, Int.reduceGE, Int.reduceBEq, Int.reduceBNe, Nat.reduceLT, Nat.reduceLeDiff, Nat.reduceAdd, Nat.reduceSub, Nat.reduceMul, Nat.reduceEqDiff, Nat.reduceBEq, Nat.reduceBNe, reduceCtorEq, Int.reduceNeg, len_map]
  refine vcIf.dec (fun h' => ?_) (fun h' => ?_)
  · have hlt : i < xs.length := by simpa using h'
    obtain ⟨x, hx0, hx, hd⟩ := at_i Ntc.row xs hlt
    rw [hd, idx] at hg
    have hp' := hp x (List.mem_of_getElem? hx0)
    simp only [↓RP, RQ, if_true, if_false, cond_true, cond_false, vcBin, bne, ne_eq, vcRet, resAll, resA, retOf, Int.reduceEq, Int.reduceNe, Int.reduceLT, Int.reduceLE, Int.reduceGT, Int.reduceGE, Int.reduceBEq, Int.reduceBNe, Nat.reduceLT, Nat.reduceLeDiff, Nat.reduceAdd, Nat.reduceSub, Nat.reduceMul, Nat.reduceEqDiff, Nat.reduceBEq, Nat.reduceBNe, reduceCtorEq, Int.reduceNeg, len_map, nn, tn, lt_cast hlt, hx, Ntc.row] at hp' ⊢
    refine vcCall.same hp' ?_
    simp only [↓RP, RQ, if_true, if_false, cond_true, cond_false, vcBin, bne, ne_eq, vcRet, resAll, resA, retOf, Int.reduceEq, Int.reduceNe, Int.reduceLT, Int.reduceLE, Int.reduceGT, Int.reduceGE, Int.reduceBEq, Int.reduceBNe, Nat.reduceLT, Nat.reduceLeDiff, Nat.reduceAdd, Nat.reduceSub, Nat.reduceMul, Nat.reduceEqDiff, Nat.reduceBEq, Nat.reduceBNe, reduceCtorEq, Int.reduceNeg]
    refine vcIf.of (fun h2 => ?_) (fun h2 => ?_)
    · rw [h2, cond_true] at hg
      simp only [↓RP, RQ, if_true, if_false, cond_true, cond_false, vcBin, bne, ne_eq, vcRet, resAll, resA, retOf, Int.reduceEq, Int.reduceNe, Int.reduceLT, Int.reduceLE, Int.reduceGT, Int.reduceGE, Int.reduceBEq, Int.reduceBNe, Nat.reduceLT, Nat.reduceLeDiff, Nat.reduceAdd, Nat.reduceSub, Nat.reduceMul, Nat.reduceEqDiff, Nat.reduceBEq, Nat.reduceBNe, reduceCtorEq, Int.reduceNeg, hg]
    · rw [h2, cond_false] at hg
      simp only [↓RP, RQ, if_true, if_false, cond_true, cond_false, vcBin, bne, ne_eq, vcRet, resAll, resA, retOf, Int.reduceEq, Int.reduceNe, Int.reduceLT, Int.reduceLE, Int.reduceGT, Int.reduceGE, Int.reduceBEq, Int.reduceBNe, Nat.reduceLT, Nat.reduceLeDiff, Nat.reduceAdd, Nat.reduceSub, Nat.reduceMul, Nat.reduceEqDiff, Nat.reduceBEq, Nat.reduceBNe, reduceCtorEq, Int.reduceNeg, w_succ hlt hm]
      exact ⟨i + 1, by omega, ⟨hlt, by rw [hg]; rfl⟩, by simp only [↓RP, RQ, if_true, if_false, cond_true, cond_false, vcBin, bne, ne_eq, vcRet, resAll, resA, retOf, Int.reduceEq, Int.reduceNe, Int.reduceLT, Int.reduceLE, Int.reduceGT, Int.reduceGE, Int.reduceBEq, Int.reduceBNe, Nat.reduceLT, Nat.reduceLeDiff, Nat.reduceAdd, Nat.reduceSub, Nat.reduceMul, Nat.reduceEqDiff, Nat.reduceBEq, Nat.reduceBNe, reduceCtorEq, Int.reduceNeg]⟩
  · have hge : i = xs.length := by simp at h'; omega
    subst hge
    rw [List.drop_length] at hg
    simp only [↓RP, RQ, if_true, if_false, cond_true, cond_false, vcBin, bne, ne_eq, vcRet, resAll, resA, retOf, Int.reduceEq, Int.reduceNe, Int.reduceLT, Int.reduceLE, Int.reduceGT, Int.reduceGE, Int.reduceBEq, Int.reduceBNe, Nat.reduceLT, Nat.reduceLeDiff, Nat.reduceAdd, Nat.reduceSub, Nat.reduceMul, Nat.reduceEqDiff, Nat.reduceBEq, Nat.reduceBNe, reduceCtorEq, Int.reduceNeg, hg, idx]
theorem s116 (N : Nat) (xs : List Ntc) (hn : xs.length ≤ 1048576) (p : Ntc → Bool) (g : Nat) (caps : List AV) (hp : ∀ x, x ∈ xs → Runs Try.prog g (.agg x.row :: caps) (emp N) fun r H' => r = .v (.bool (p x)) ∧ H' = emp N) :
    Runs Try.prog 116 [.ro 4 (xs.map Ntc.row), .fn g caps] (emp N) fun r H' => r = .v (.bool (xs.any p)) ∧ H' = emp N := by
  refine C116_fn ?_
  unfold C116
  simp only [↓RP, RQ, if_true, if_false, cond_true, cond_false, vcBin, bne, ne_eq, vcRet, resAll, resA, retOf, Int.reduceEq, Int.reduceNe, Int.reduceLT, Int.reduceLE, Int.reduceGT, Int.reduceGE, Int.reduceBEq, Int.reduceBNe, Nat.reduceLT, Nat.reduceLeDiff, Nat.reduceAdd, Nat.reduceSub, Nat.reduceMul, Nat.reduceEqDiff, Nat.reduceBEq, Nat.reduceBNe, reduceCtorEq, Int.reduceNeg]
  refine vcCall.same (s145 N xs hn p g caps hp) ?_
  simp only [↓RP, RQ, if_true, if_false, cond_true, cond_false, vcBin, bne, ne_eq, vcRet, resAll, resA, retOf, Int.reduceEq, Int.reduceNe, Int.reduceLT, Int.reduceLE, Int.reduceGT, Int.reduceGE, Int.reduceBEq, Int.reduceBNe, Nat.reduceLT, Nat.reduceLeDiff, Nat.reduceAdd, Nat.reduceSub, Nat.reduceMul, Nat.reduceEqDiff, Nat.reduceBEq, Nat.reduceBNe, reduceCtorEq, Int.reduceNeg, idx_ge p xs 0 (Int.le_refl _)]
theorem s117 (N : Nat) (x : Ntc) (p : Ntc → Bool) (g : Nat) (hp : Runs Try.prog g [.agg x.row] (emp (N + 1)) fun r H' => r = .v (.bool (p x)) ∧ H' = emp (N + 1)) :
    Runs Try.prog 117 [.agg x.row, .rp [.fn g []]] (emp N) fun r H' => r = .v (.bool (!p x)) ∧ H' = emp N := by
  refine Runs.fin0 (Q := fun r H' => r = .v (.bool (!p x))) ?_ (fun r H' h => by rw [h]; exact .same _ (.inl rfl)) (.v _)
  refine C117_fn ?_
  unfold C117
  simp only [↓RP, RQ, if_true, if_false, cond_true, cond_false, vcBin, bne, ne_eq, vcRet, resAll, resA, retOf, Int.reduceEq, Int.reduceNe, Int.reduceLT, Int.reduceLE, Int.reduceGT, Int.reduceGE, Int.reduceBEq, Int.reduceBNe, Nat.reduceLT, Nat.reduceLeDiff, Nat.reduceAdd, Nat.reduceSub, Nat.reduceMul, Nat.reduceEqDiff, Nat.reduceBEq, Nat.reduceBNe, reduceCtorEq, Int.reduceNeg, Ntc.row] at hp ⊢
  refine vcCall.same (Runs.pure hp (Fzl.same _) (.v _)) ?_
  simp only [↓RP, RQ, if_true, if_false, cond_true, cond_false, vcBin, bne, ne_eq, vcRet, resAll, resA, retOf, Int.reduceEq, Int.reduceNe, Int.reduceLT, Int.reduceLE, Int.reduceGT, Int.reduceGE, Int.reduceBEq, Int.reduceBNe, Nat.reduceLT, Nat.reduceLeDiff, Nat.reduceAdd, Nat.reduceSub, Nat.reduceMul, Nat.reduceEqDiff, Nat.reduceBEq, Nat.reduceBNe, reduceCtorEq, Int.reduceNeg]
theorem s76 (N : Nat) (xs : List Ntc) (hn : xs.length ≤ 1048576) (p : Ntc → Bool) (g : Nat) (hp : ∀ M x, x ∈ xs → Runs Try.prog g [.agg x.row] (emp M) fun r H' => r = .v (.bool (p x)) ∧ H' = emp M) :
    Runs Try.prog 76 [.ro 4 (xs.map Ntc.row), .fn g []] (emp N) fun r H' => r = .v (.bool (xs.all p)) ∧ H' = emp N := by
  refine Runs.fin0 (Q := fun r H' => r = .v (.bool (xs.all p))) ?_ (fun r H' h => by rw [h]; exact .same _ (.inl rfl)) (.v _)
  refine C76_fn ?_
  unfold C76
  simp only [↓RP, RQ, if_true, if_false, cond_true, cond_false, vcBin, bne, ne_eq, vcRet, resAll, resA, retOf, Int.reduceEq, Int.reduceNe, Int.reduceLT, Int.reduceLE, Int.reduceGT, Int.reduceGE, Int.reduceBEq, Int.reduceBNe, Nat.reduceLT, Nat.reduceLeDiff, Nat.reduceAdd, Nat.reduceSub, Nat.reduceMul, Nat.reduceEqDiff, Nat.reduceBEq, Nat.reduceBNe, reduceCtorEq, Int.reduceNeg]
  refine vcCall.same (Runs.pure (H := hl (N + 1) [(N, some ⟨1, [[.fn g []]]⟩)]) (s116 (N + 1) xs hn (fun x => !p x) 117 [.rp [.fn g []]] fun x hx => s117 (N + 1) x p g (hp _ x hx)) (.cons (.same _ (.inl rfl)) (.cons (Fz.fnl (.cons (Fz.row (sz := 1) (look_same _ _ _)) .nil)) .nil)) (.v _)) ?_
  simp only [↓RP, RQ, if_true, if_false, cond_true, cond_false, vcBin, bne, ne_eq, vcRet, resAll, resA, retOf, Int.reduceEq, Int.reduceNe, Int.reduceLT, Int.reduceLE, Int.reduceGT, Int.reduceGE, Int.reduceBEq, Int.reduceBNe, Nat.reduceLT, Nat.reduceLeDiff, Nat.reduceAdd, Nat.reduceSub, Nat.reduceMul, Nat.reduceEqDiff, Nat.reduceBEq, Nat.reduceBNe, reduceCtorEq, Int.reduceNeg, any_not]
def Ntc.due (x : Ntc) : Int := bus x.sent x.days
def Ntc.rem (x : Ntc) : List Int := [bus x.due 1, bus x.due 6, bus x.due 16]
def Ntc.isOpen (x : Ntc) : Bool := x.done == -1
def Ntc.good (x : Ntc) : Bool := code1 x.party && inR x.sent 0 36524 && inR x.days 1 100 && (x.done == -1 || (inR x.done 0 36524 && decide (x.done ≥ x.sent))) && inR (bus x.due 16) 0 36524
def Ntc.le (a b : Ntc) : Bool := decide (a.sent ≤ b.sent)
def isDia (xs : List Ntc) : Bool := chk Ntc.good Ntc.le none xs && decide ((xs.length : Int) ≤ 12)
theorem Ntc.due_le {x : Ntc} (h1 : inR x.sent 0 36524 = true) (h2 : inR x.days 1 100 = true) : 0 ≤ x.due ∧ x.due ≤ 40000 := by
  simp only [inR, Bool.and_eq_true, decide_eq_true_eq] at h1 h2
  have := bus_le x.sent x.days
  unfold Ntc.due; omega
theorem s82 (N : Nat) (x : Ntc) (h1 : inR x.sent 0 36524 = true) (h2 : inR x.days 1 100 = true) : Runs Try.prog 82 [.agg x.row] (emp N) fun r H' => r = .v (.int .i64 x.due) ∧ H' = emp N := by
  have h1' := h1
  have h2' := h2
  simp only [inR, Bool.and_eq_true, decide_eq_true_eq] at h1' h2'
  refine Runs.fin0 (Q := fun r H' => r = .v (.int .i64 x.due)) ?_ (fun r H' h => by rw [h]; exact .same _ (.inl rfl)) (.v _)
  refine C82_fn ?_
  unfold C82
  simp only [↓RP, RQ, if_true, if_false, cond_true, cond_false, vcBin, bne, ne_eq, vcRet, resAll, resA, retOf, Int.reduceEq, Int.reduceNe, Int.reduceLT, Int.reduceLE, Int.reduceGT, Int.reduceGE, Int.reduceBEq, Int.reduceBNe, Nat.reduceLT, Nat.reduceLeDiff, Nat.reduceAdd, Nat.reduceSub, Nat.reduceMul, Nat.reduceEqDiff, Nat.reduceBEq, Nat.reduceBNe, reduceCtorEq, Int.reduceNeg, Ntc.row]
  first | refine vcCall.same (Runs.pure (s115 _ x.sent x.days (by omega) (by omega) (by omega) (by omega)) (Fzl.same _) (.v _)) ?_ | refine vcQCall.same (Runs.pure (s115 _ x.sent x.days (by omega) (by omega) (by omega) (by omega)) (Fzl.same _) (.v _)) ?_
  simp only [↓RP, RQ, if_true, if_false, cond_true, cond_false, vcBin, bne, ne_eq, vcRet, resAll, resA, retOf, Int.reduceEq, Int.reduceNe, Int.reduceLT, Int.reduceLE, Int.reduceGT, Int.reduceGE, Int.reduceBEq, Int.reduceBNe, Nat.reduceLT, Nat.reduceLeDiff, Nat.reduceAdd, Nat.reduceSub, Nat.reduceMul, Nat.reduceEqDiff, Nat.reduceBEq, Nat.reduceBNe, reduceCtorEq, Int.reduceNeg, Ntc.due]
theorem s84 (N : Nat) (x : Ntc) (h1 : inR x.sent 0 36524 = true) (h2 : inR x.days 1 100 = true) : Runs Try.prog 84 [.agg x.row] (emp N) fun r H' => r = .v (.int .i64 x.due) ∧ H' = emp N := by
  have h1' := h1
  have h2' := h2
  simp only [inR, Bool.and_eq_true, decide_eq_true_eq] at h1' h2'
  refine Runs.fin0 (Q := fun r H' => r = .v (.int .i64 x.due)) ?_ (fun r H' h => by rw [h]; exact .same _ (.inl rfl)) (.v _)
  refine C84_fn ?_
  unfold C84
  simp only [↓RP, RQ, if_true, if_false, cond_true, cond_false, vcBin, bne, ne_eq, vcRet, resAll, resA, retOf, Int.reduceEq, Int.reduceNe, Int.reduceLT, Int.reduceLE, Int.reduceGT, Int.reduceGE, Int.reduceBEq, Int.reduceBNe, Nat.reduceLT, Nat.reduceLeDiff, Nat.reduceAdd, Nat.reduceSub, Nat.reduceMul, Nat.reduceEqDiff, Nat.reduceBEq, Nat.reduceBNe, reduceCtorEq, Int.reduceNeg, Ntc.row]
  first | refine vcCall.same (Runs.pure (s123 _ x.sent x.days (by omega) (by omega) (by omega) (by omega)) (Fzl.same _) (.v _)) ?_ | refine vcQCall.same (Runs.pure (s123 _ x.sent x.days (by omega) (by omega) (by omega) (by omega)) (Fzl.same _) (.v _)) ?_
  simp only [↓RP, RQ, if_true, if_false, cond_true, cond_false, vcBin, bne, ne_eq, vcRet, resAll, resA, retOf, Int.reduceEq, Int.reduceNe, Int.reduceLT, Int.reduceLE, Int.reduceGT, Int.reduceGE, Int.reduceBEq, Int.reduceBNe, Nat.reduceLT, Nat.reduceLeDiff, Nat.reduceAdd, Nat.reduceSub, Nat.reduceMul, Nat.reduceEqDiff, Nat.reduceBEq, Nat.reduceBNe, reduceCtorEq, Int.reduceNeg, Ntc.due]
theorem lit3 : ((3 : Nat) : Int) = 3 := rfl
theorem rows3 (a b c : Int) : ([a, b, c].map int1) = [[.v (.int .i64 a)], [.v (.int .i64 b)], [.v (.int .i64 c)]] := rfl
theorem q74 (N : Nat) (x : Ntc) (h1 : inR x.sent 0 36524 = true) (h2 : inR x.days 1 100 = true) : Runs Try.prog 74 [.agg x.row] (emp N) (Got1 1 (x.rem.map int1)) := by
  have hd := Ntc.due_le h1 h2
  refine C74_fn ?_
  unfold C74
  simp only [↓RP, RQ, if_true, if_false, cond_true, cond_false, vcBin, bne, ne_eq, vcRet, resAll, resA, retOf, Int.reduceEq, Int.reduceNe, Int.reduceLT, Int.reduceLE, Int.reduceGT, Int.reduceGE, Int.reduceBEq, Int.reduceBNe, Nat.reduceLT, Nat.reduceLeDiff, Nat.reduceAdd, Nat.reduceSub, Nat.reduceMul, Nat.reduceEqDiff, Nat.reduceBEq, Nat.reduceBNe, reduceCtorEq, Int.reduceNeg, Ntc.row]
  first | refine vcCall.same (Runs.pure (s82 _ x h1 h2) (Fzl.same _) (.v _)) ?_ | refine vcQCall.same (Runs.pure (s82 _ x h1 h2) (Fzl.same _) (.v _)) ?_
  simp only [↓RP, RQ, if_true, if_false, cond_true, cond_false, vcBin, bne, ne_eq, vcRet, resAll, resA, retOf, Int.reduceEq, Int.reduceNe, Int.reduceLT, Int.reduceLE, Int.reduceGT, Int.reduceGE, Int.reduceBEq, Int.reduceBNe, Nat.reduceLT, Nat.reduceLeDiff, Nat.reduceAdd, Nat.reduceSub, Nat.reduceMul, Nat.reduceEqDiff, Nat.reduceBEq, Nat.reduceBNe, reduceCtorEq, Int.reduceNeg]
  first | refine vcCall.same (Runs.pure (s115 _ x.due 1 (by omega) (by omega) (by omega) (by omega)) (Fzl.same _) (.v _)) ?_ | refine vcQCall.same (Runs.pure (s115 _ x.due 1 (by omega) (by omega) (by omega) (by omega)) (Fzl.same _) (.v _)) ?_
  simp only [↓RP, RQ, if_true, if_false, cond_true, cond_false, vcBin, bne, ne_eq, vcRet, resAll, resA, retOf, Int.reduceEq, Int.reduceNe, Int.reduceLT, Int.reduceLE, Int.reduceGT, Int.reduceGE, Int.reduceBEq, Int.reduceBNe, Nat.reduceLT, Nat.reduceLeDiff, Nat.reduceAdd, Nat.reduceSub, Nat.reduceMul, Nat.reduceEqDiff, Nat.reduceBEq, Nat.reduceBNe, reduceCtorEq, Int.reduceNeg]
  first | refine vcCall.same (Runs.pure (s115 _ x.due 6 (by omega) (by omega) (by omega) (by omega)) (Fzl.same _) (.v _)) ?_ | refine vcQCall.same (Runs.pure (s115 _ x.due 6 (by omega) (by omega) (by omega) (by omega)) (Fzl.same _) (.v _)) ?_
  simp only [↓RP, RQ, if_true, if_false, cond_true, cond_false, vcBin, bne, ne_eq, vcRet, resAll, resA, retOf, Int.reduceEq, Int.reduceNe, Int.reduceLT, Int.reduceLE, Int.reduceGT, Int.reduceGE, Int.reduceBEq, Int.reduceBNe, Nat.reduceLT, Nat.reduceLeDiff, Nat.reduceAdd, Nat.reduceSub, Nat.reduceMul, Nat.reduceEqDiff, Nat.reduceBEq, Nat.reduceBNe, reduceCtorEq, Int.reduceNeg]
  first | refine vcCall.same (Runs.pure (s115 _ x.due 16 (by omega) (by omega) (by omega) (by omega)) (Fzl.same _) (.v _)) ?_ | refine vcQCall.same (Runs.pure (s115 _ x.due 16 (by omega) (by omega) (by omega) (by omega)) (Fzl.same _) (.v _)) ?_
  simp only [↓RP, RQ, if_true, if_false, cond_true, cond_false, vcBin, bne, ne_eq, vcRet, resAll, resA, retOf, Int.reduceEq, Int.reduceNe, Int.reduceLT, Int.reduceLE, Int.reduceGT, Int.reduceGE, Int.reduceBEq, Int.reduceBNe, Nat.reduceLT, Nat.reduceLeDiff, Nat.reduceAdd, Nat.reduceSub, Nat.reduceMul, Nat.reduceEqDiff, Nat.reduceBEq, Nat.reduceBNe, reduceCtorEq, Int.reduceNeg]
  exact ⟨N + 1, rfl, look_same _ _ _⟩
theorem q86 (N : Nat) (x : Ntc) (h1 : inR x.sent 0 36524 = true) (h2 : inR x.days 1 100 = true) : Runs Try.prog 86 [.agg x.row] (emp N) (Got1 1 (x.rem.map int1)) := by
  have hd := Ntc.due_le h1 h2
  refine C86_fn ?_
  unfold C86
  simp only [↓RP, RQ, if_true, if_false, cond_true, cond_false, vcBin, bne, ne_eq, vcRet, resAll, resA, retOf, Int.reduceEq, Int.reduceNe, Int.reduceLT, Int.reduceLE, Int.reduceGT, Int.reduceGE, Int.reduceBEq, Int.reduceBNe, Nat.reduceLT, Nat.reduceLeDiff, Nat.reduceAdd, Nat.reduceSub, Nat.reduceMul, Nat.reduceEqDiff, Nat.reduceBEq, Nat.reduceBNe, reduceCtorEq, Int.reduceNeg, Ntc.row]
  first | refine vcCall.same (Runs.pure (s84 _ x h1 h2) (Fzl.same _) (.v _)) ?_ | refine vcQCall.same (Runs.pure (s84 _ x h1 h2) (Fzl.same _) (.v _)) ?_
  simp only [↓RP, RQ, if_true, if_false, cond_true, cond_false, vcBin, bne, ne_eq, vcRet, resAll, resA, retOf, Int.reduceEq, Int.reduceNe, Int.reduceLT, Int.reduceLE, Int.reduceGT, Int.reduceGE, Int.reduceBEq, Int.reduceBNe, Nat.reduceLT, Nat.reduceLeDiff, Nat.reduceAdd, Nat.reduceSub, Nat.reduceMul, Nat.reduceEqDiff, Nat.reduceBEq, Nat.reduceBNe, reduceCtorEq, Int.reduceNeg]
  first | refine vcCall.same (Runs.pure (s123 _ x.due 1 (by omega) (by omega) (by omega) (by omega)) (Fzl.same _) (.v _)) ?_ | refine vcQCall.same (Runs.pure (s123 _ x.due 1 (by omega) (by omega) (by omega) (by omega)) (Fzl.same _) (.v _)) ?_
  simp only [↓RP, RQ, if_true, if_false, cond_true, cond_false, vcBin, bne, ne_eq, vcRet, resAll, resA, retOf, Int.reduceEq, Int.reduceNe, Int.reduceLT, Int.reduceLE, Int.reduceGT, Int.reduceGE, Int.reduceBEq, Int.reduceBNe, Nat.reduceLT, Nat.reduceLeDiff, Nat.reduceAdd, Nat.reduceSub, Nat.reduceMul, Nat.reduceEqDiff, Nat.reduceBEq, Nat.reduceBNe, reduceCtorEq, Int.reduceNeg]
  first | refine vcCall.same (Runs.pure (s123 _ x.due 6 (by omega) (by omega) (by omega) (by omega)) (Fzl.same _) (.v _)) ?_ | refine vcQCall.same (Runs.pure (s123 _ x.due 6 (by omega) (by omega) (by omega) (by omega)) (Fzl.same _) (.v _)) ?_
  simp only [↓RP, RQ, if_true, if_false, cond_true, cond_false, vcBin, bne, ne_eq, vcRet, resAll, resA, retOf, Int.reduceEq, Int.reduceNe, Int.reduceLT, Int.reduceLE, Int.reduceGT, Int.reduceGE, Int.reduceBEq, Int.reduceBNe, Nat.reduceLT, Nat.reduceLeDiff, Nat.reduceAdd, Nat.reduceSub, Nat.reduceMul, Nat.reduceEqDiff, Nat.reduceBEq, Nat.reduceBNe, reduceCtorEq, Int.reduceNeg]
  first | refine vcCall.same (Runs.pure (s123 _ x.due 16 (by omega) (by omega) (by omega) (by omega)) (Fzl.same _) (.v _)) ?_ | refine vcQCall.same (Runs.pure (s123 _ x.due 16 (by omega) (by omega) (by omega) (by omega)) (Fzl.same _) (.v _)) ?_
  simp only [↓RP, RQ, if_true, if_false, cond_true, cond_false, vcBin, bne, ne_eq, vcRet, resAll, resA, retOf, Int.reduceEq, Int.reduceNe, Int.reduceLT, Int.reduceLE, Int.reduceGT, Int.reduceGE, Int.reduceBEq, Int.reduceBNe, Nat.reduceLT, Nat.reduceLeDiff, Nat.reduceAdd, Nat.reduceSub, Nat.reduceMul, Nat.reduceEqDiff, Nat.reduceBEq, Nat.reduceBNe, reduceCtorEq, Int.reduceNeg]
  exact ⟨N + 1, rfl, look_same _ _ _⟩
theorem s87 (N : Nat) (x : Ntc) : Runs Try.prog 87 [.agg x.row] (emp N) fun r H' => r = .v (.bool x.isOpen) ∧ H' = emp N := by
  refine Runs.fin0 (Q := fun r H' => r = .v (.bool x.isOpen)) ?_ (fun r H' h => by rw [h]; exact .same _ (.inl rfl)) (.v _)
  refine C87_fn ?_
  unfold C87
  simp only [↓RP, RQ, if_true, if_false, cond_true, cond_false, vcBin, bne, ne_eq, vcRet, resAll, resA, retOf, Int.reduceEq, Int.reduceNe, Int.reduceLT, Int.reduceLE, Int.reduceGT, Int.reduceGE, Int.reduceBEq, Int.reduceBNe, Nat.reduceLT, Nat.reduceLeDiff, Nat.reduceAdd, Nat.reduceSub, Nat.reduceMul, Nat.reduceEqDiff, Nat.reduceBEq, Nat.reduceBNe, reduceCtorEq, Int.reduceNeg, Ntc.row, Ntc.isOpen]
theorem s77 (N : Nat) (x : Ntc) (hx : x.ok) : Runs Try.prog 77 [.agg x.row] (emp N) fun r H' => r = .v (.bool x.good) ∧ H' = emp N := by
  refine Runs.fin0 (Q := fun r H' => r = .v (.bool x.good)) ?_ (fun r H' h => by rw [h]; exact .same _ (.inl rfl)) (.v _)
  refine C77_fn ?_
  unfold C77
  simp only [↓RP, RQ, if_true, if_false, cond_true, cond_false, vcBin, bne, ne_eq, vcRet, resAll, resA, retOf, Int.reduceEq, Int.reduceNe, Int.reduceLT, Int.reduceLE, Int.reduceGT, Int.reduceGE, Int.reduceBEq, Int.reduceBNe, Nat.reduceLT, Nat.reduceLeDiff, Nat.reduceAdd, Nat.reduceSub, Nat.reduceMul, Nat.reduceEqDiff, Nat.reduceBEq, Nat.reduceBNe, reduceCtorEq, Int.reduceNeg, Ntc.row]
  first | refine vcCall.same (Runs.pure (s118 _ _ hx.1) (Fzl.same _) (.v _)) ?_ | refine vcQCall.same (Runs.pure (s118 _ _ hx.1) (Fzl.same _) (.v _)) ?_
  simp only [↓RP, RQ, if_true, if_false, cond_true, cond_false, vcBin, bne, ne_eq, vcRet, resAll, resA, retOf, Int.reduceEq, Int.reduceNe, Int.reduceLT, Int.reduceLE, Int.reduceGT, Int.reduceGE, Int.reduceBEq, Int.reduceBNe, Nat.reduceLT, Nat.reduceLeDiff, Nat.reduceAdd, Nat.reduceSub, Nat.reduceMul, Nat.reduceEqDiff, Nat.reduceBEq, Nat.reduceBNe, reduceCtorEq, Int.reduceNeg]
  first | refine vcIf.of (fun h1 => ?_) (fun h1 => ?_) | refine vcQIf.of (fun h1 => ?_) (fun h1 => ?_)
  · simp only [↓RP, RQ, if_true, if_false, cond_true, cond_false, vcBin, bne, ne_eq, vcRet, resAll, resA, retOf, Int.reduceEq, Int.reduceNe, Int.reduceLT, Int.reduceLE, Int.reduceGT, Int.reduceGE, Int.reduceBEq, Int.reduceBNe, Nat.reduceLT, Nat.reduceLeDiff, Nat.reduceAdd, Nat.reduceSub, Nat.reduceMul, Nat.reduceEqDiff, Nat.reduceBEq, Nat.reduceBNe, reduceCtorEq, Int.reduceNeg, h1]
    first | refine vcCall.same (Runs.pure (s119 _ _) (Fzl.same _) (.v _)) ?_ | refine vcQCall.same (Runs.pure (s119 _ _) (Fzl.same _) (.v _)) ?_
    simp only [↓RP, RQ, if_true, if_false, cond_true, cond_false, vcBin, bne, ne_eq, vcRet, resAll, resA, retOf, Int.reduceEq, Int.reduceNe, Int.reduceLT, Int.reduceLE, Int.reduceGT, Int.reduceGE, Int.reduceBEq, Int.reduceBNe, Nat.reduceLT, Nat.reduceLeDiff, Nat.reduceAdd, Nat.reduceSub, Nat.reduceMul, Nat.reduceEqDiff, Nat.reduceBEq, Nat.reduceBNe, reduceCtorEq, Int.reduceNeg]
    first | refine vcIf.of (fun h2 => ?_) (fun h2 => ?_) | refine vcQIf.of (fun h2 => ?_) (fun h2 => ?_)
    · simp only [↓RP, RQ, if_true, if_false, cond_true, cond_false, vcBin, bne, ne_eq, vcRet, resAll, resA, retOf, Int.reduceEq, Int.reduceNe, Int.reduceLT, Int.reduceLE, Int.reduceGT, Int.reduceGE, Int.reduceBEq, Int.reduceBNe, Nat.reduceLT, Nat.reduceLeDiff, Nat.reduceAdd, Nat.reduceSub, Nat.reduceMul, Nat.reduceEqDiff, Nat.reduceBEq, Nat.reduceBNe, reduceCtorEq, Int.reduceNeg, h1, h2]
      first | refine vcCall.same (Runs.pure (s120 _ _ _ _) (Fzl.same _) (.v _)) ?_ | refine vcQCall.same (Runs.pure (s120 _ _ _ _) (Fzl.same _) (.v _)) ?_
      simp only [↓RP, RQ, if_true, if_false, cond_true, cond_false, vcBin, bne, ne_eq, vcRet, resAll, resA, retOf, Int.reduceEq, Int.reduceNe, Int.reduceLT, Int.reduceLE, Int.reduceGT, Int.reduceGE, Int.reduceBEq, Int.reduceBNe, Nat.reduceLT, Nat.reduceLeDiff, Nat.reduceAdd, Nat.reduceSub, Nat.reduceMul, Nat.reduceEqDiff, Nat.reduceBEq, Nat.reduceBNe, reduceCtorEq, Int.reduceNeg]
      first | refine vcIf.of (fun h3 => ?_) (fun h3 => ?_) | refine vcQIf.of (fun h3 => ?_) (fun h3 => ?_)
      · simp only [↓RP, RQ, if_true, if_false, cond_true, cond_false, vcBin, bne, ne_eq, vcRet, resAll, resA, retOf, Int.reduceEq, Int.reduceNe, Int.reduceLT, Int.reduceLE, Int.reduceGT, Int.reduceGE, Int.reduceBEq, Int.reduceBNe, Nat.reduceLT, Nat.reduceLeDiff, Nat.reduceAdd, Nat.reduceSub, Nat.reduceMul, Nat.reduceEqDiff, Nat.reduceBEq, Nat.reduceBNe, reduceCtorEq, Int.reduceNeg, h1, h2, h3]
        first | refine vcCall.same (Runs.pure (s87 _ x) (Fzl.same _) (.v _)) ?_ | refine vcQCall.same (Runs.pure (s87 _ x) (Fzl.same _) (.v _)) ?_
        simp only [↓RP, RQ, if_true, if_false, cond_true, cond_false, vcBin, bne, ne_eq, vcRet, resAll, resA, retOf, Int.reduceEq, Int.reduceNe, Int.reduceLT, Int.reduceLE, Int.reduceGT, Int.reduceGE, Int.reduceBEq, Int.reduceBNe, Nat.reduceLT, Nat.reduceLeDiff, Nat.reduceAdd, Nat.reduceSub, Nat.reduceMul, Nat.reduceEqDiff, Nat.reduceBEq, Nat.reduceBNe, reduceCtorEq, Int.reduceNeg, Ntc.isOpen]
        first | refine vcIf.of (fun h4 => ?_) (fun h4 => ?_) | refine vcQIf.of (fun h4 => ?_) (fun h4 => ?_)
        · simp only [↓RP, RQ, if_true, if_false, cond_true, cond_false, vcBin, bne, ne_eq, vcRet, resAll, resA, retOf, Int.reduceEq, Int.reduceNe, Int.reduceLT, Int.reduceLE, Int.reduceGT, Int.reduceGE, Int.reduceBEq, Int.reduceBNe, Nat.reduceLT, Nat.reduceLeDiff, Nat.reduceAdd, Nat.reduceSub, Nat.reduceMul, Nat.reduceEqDiff, Nat.reduceBEq, Nat.reduceBNe, reduceCtorEq, Int.reduceNeg, h1, h2, h3, h4]
          refine vcCall.to (Got1.at (q86 _ x h2 h3) (Fzl.same _) (norefs_map int1_nr _) (noros_map int1_no _)) ?_
          simp only [↓RP, RQ, if_true, if_false, cond_true, cond_false, vcBin, bne, ne_eq, vcRet, resAll, resA, retOf, Int.reduceEq, Int.reduceNe, Int.reduceLT, Int.reduceLE, Int.reduceGT, Int.reduceGE, Int.reduceBEq, Int.reduceBNe, Nat.reduceLT, Nat.reduceLeDiff, Nat.reduceAdd, Nat.reduceSub, Nat.reduceMul, Nat.reduceEqDiff, Nat.reduceBEq, Nat.reduceBNe, reduceCtorEq, Int.reduceNeg, Ntc.rem, rows3, len_cl, len_nl, List.getD_cons_succ, List.getD_cons_zero, Int.reduceToNat, lit3]
          first | refine vcCall.same (Runs.pure (s119 _ _) (Fzl.same _) (.v _)) ?_ | refine vcQCall.same (Runs.pure (s119 _ _) (Fzl.same _) (.v _)) ?_
          simp only [↓RP, RQ, if_true, if_false, cond_true, cond_false, vcBin, bne, ne_eq, vcRet, resAll, resA, retOf, Int.reduceEq, Int.reduceNe, Int.reduceLT, Int.reduceLE, Int.reduceGT, Int.reduceGE, Int.reduceBEq, Int.reduceBNe, Nat.reduceLT, Nat.reduceLeDiff, Nat.reduceAdd, Nat.reduceSub, Nat.reduceMul, Nat.reduceEqDiff, Nat.reduceBEq, Nat.reduceBNe, reduceCtorEq, Int.reduceNeg, Ntc.good, h1, h2, h3, h4]
        · simp only [↓RP, RQ, if_true, if_false, cond_true, cond_false, vcBin, bne, ne_eq, vcRet, resAll, resA, retOf, Int.reduceEq, Int.reduceNe, Int.reduceLT, Int.reduceLE, Int.reduceGT, Int.reduceGE, Int.reduceBEq, Int.reduceBNe, Nat.reduceLT, Nat.reduceLeDiff, Nat.reduceAdd, Nat.reduceSub, Nat.reduceMul, Nat.reduceEqDiff, Nat.reduceBEq, Nat.reduceBNe, reduceCtorEq, Int.reduceNeg, h1, h2, h3, h4]
          first | refine vcCall.same (Runs.pure (s119 _ _) (Fzl.same _) (.v _)) ?_ | refine vcQCall.same (Runs.pure (s119 _ _) (Fzl.same _) (.v _)) ?_
          simp only [↓RP, RQ, if_true, if_false, cond_true, cond_false, vcBin, bne, ne_eq, vcRet, resAll, resA, retOf, Int.reduceEq, Int.reduceNe, Int.reduceLT, Int.reduceLE, Int.reduceGT, Int.reduceGE, Int.reduceBEq, Int.reduceBNe, Nat.reduceLT, Nat.reduceLeDiff, Nat.reduceAdd, Nat.reduceSub, Nat.reduceMul, Nat.reduceEqDiff, Nat.reduceBEq, Nat.reduceBNe, reduceCtorEq, Int.reduceNeg]
          first | refine vcIf.of (fun h5 => ?_) (fun h5 => ?_) | refine vcQIf.of (fun h5 => ?_) (fun h5 => ?_)
          · simp only [↓RP, RQ, if_true, if_false, cond_true, cond_false, vcBin, bne, ne_eq, vcRet, resAll, resA, retOf, Int.reduceEq, Int.reduceNe, Int.reduceLT, Int.reduceLE, Int.reduceGT, Int.reduceGE, Int.reduceBEq, Int.reduceBNe, Nat.reduceLT, Nat.reduceLeDiff, Nat.reduceAdd, Nat.reduceSub, Nat.reduceMul, Nat.reduceEqDiff, Nat.reduceBEq, Nat.reduceBNe, reduceCtorEq, Int.reduceNeg, h1, h2, h3, h4, h5]
            first | refine vcIf.dec (fun h6 => ?_) (fun h6 => ?_) | refine vcQIf.dec (fun h6 => ?_) (fun h6 => ?_)
            · simp only [↓RP, RQ, if_true, if_false, cond_true, cond_false, vcBin, bne, ne_eq, vcRet, resAll, resA, retOf, Int.reduceEq, Int.reduceNe, Int.reduceLT, Int.reduceLE, Int.reduceGT, Int.reduceGE, Int.reduceBEq, Int.reduceBNe, Nat.reduceLT, Nat.reduceLeDiff, Nat.reduceAdd, Nat.reduceSub, Nat.reduceMul, Nat.reduceEqDiff, Nat.reduceBEq, Nat.reduceBNe, reduceCtorEq, Int.reduceNeg, h1, h2, h3, h4, h5, h6]
              refine vcCall.to (Got1.at (q86 _ x h2 h3) (Fzl.same _) (norefs_map int1_nr _) (noros_map int1_no _)) ?_
              simp only [↓RP, RQ, if_true, if_false, cond_true, cond_false, vcBin, bne, ne_eq, vcRet, resAll, resA, retOf, Int.reduceEq, Int.reduceNe, Int.reduceLT, Int.reduceLE, Int.reduceGT, Int.reduceGE, Int.reduceBEq, Int.reduceBNe, Nat.reduceLT, Nat.reduceLeDiff, Nat.reduceAdd, Nat.reduceSub, Nat.reduceMul, Nat.reduceEqDiff, Nat.reduceBEq, Nat.reduceBNe, reduceCtorEq, Int.reduceNeg, Ntc.rem, rows3, len_cl, len_nl, List.getD_cons_succ, List.getD_cons_zero, Int.reduceToNat, lit3]
              first | refine vcCall.same (Runs.pure (s119 _ _) (Fzl.same _) (.v _)) ?_ | refine vcQCall.same (Runs.pure (s119 _ _) (Fzl.same _) (.v _)) ?_
              simp only [↓RP, RQ, if_true, if_false, cond_true, cond_false, vcBin, bne, ne_eq, vcRet, resAll, resA, retOf, Int.reduceEq, Int.reduceNe, Int.reduceLT, Int.reduceLE, Int.reduceGT, Int.reduceGE, Int.reduceBEq, Int.reduceBNe, Nat.reduceLT, Nat.reduceLeDiff, Nat.reduceAdd, Nat.reduceSub, Nat.reduceMul, Nat.reduceEqDiff, Nat.reduceBEq, Nat.reduceBNe, reduceCtorEq, Int.reduceNeg, Ntc.good, h1, h2, h3, h4, h5, h6]
            · simp only [↓RP, RQ, if_true, if_false, cond_true, cond_false, vcBin, bne, ne_eq, vcRet, resAll, resA, retOf, Int.reduceEq, Int.reduceNe, Int.reduceLT, Int.reduceLE, Int.reduceGT, Int.reduceGE, Int.reduceBEq, Int.reduceBNe, Nat.reduceLT, Nat.reduceLeDiff, Nat.reduceAdd, Nat.reduceSub, Nat.reduceMul, Nat.reduceEqDiff, Nat.reduceBEq, Nat.reduceBNe, reduceCtorEq, Int.reduceNeg, Ntc.good, h1, h2, h3, h4, h5, h6]
          · simp only [↓RP, RQ, if_true, if_false, cond_true, cond_false, vcBin, bne, ne_eq, vcRet, resAll, resA, retOf, Int.reduceEq, Int.reduceNe, Int.reduceLT, Int.reduceLE, Int.reduceGT, Int.reduceGE, Int.reduceBEq, Int.reduceBNe, Nat.reduceLT, Nat.reduceLeDiff, Nat.reduceAdd, Nat.reduceSub, Nat.reduceMul, Nat.reduceEqDiff, Nat.reduceBEq, Nat.reduceBNe, reduceCtorEq, Int.reduceNeg, Ntc.good, h1, h2, h3, h4, h5]
      · simp only [↓RP, RQ, if_true, if_false, cond_true, cond_false, vcBin, bne, ne_eq, vcRet, resAll, resA, retOf, Int.reduceEq, Int.reduceNe, Int.reduceLT, Int.reduceLE, Int.reduceGT, Int.reduceGE, Int.reduceBEq, Int.reduceBNe, Nat.reduceLT, Nat.reduceLeDiff, Nat.reduceAdd, Nat.reduceSub, Nat.reduceMul, Nat.reduceEqDiff, Nat.reduceBEq, Nat.reduceBNe, reduceCtorEq, Int.reduceNeg, Ntc.good, h1, h2, h3]
    · simp only [↓RP, RQ, if_true, if_false, cond_true, cond_false, vcBin, bne, ne_eq, vcRet, resAll, resA, retOf, Int.reduceEq, Int.reduceNe, Int.reduceLT, Int.reduceLE, Int.reduceGT, Int.reduceGE, Int.reduceBEq, Int.reduceBNe, Nat.reduceLT, Nat.reduceLeDiff, Nat.reduceAdd, Nat.reduceSub, Nat.reduceMul, Nat.reduceEqDiff, Nat.reduceBEq, Nat.reduceBNe, reduceCtorEq, Int.reduceNeg, Ntc.good, h1, h2]
  · simp only [↓RP, RQ, if_true, if_false, cond_true, cond_false, vcBin, bne, ne_eq, vcRet, resAll, resA, retOf, Int.reduceEq, Int.reduceNe, Int.reduceLT, Int.reduceLE, Int.reduceGT, Int.reduceGE, Int.reduceBEq, Int.reduceBNe, Nat.reduceLT, Nat.reduceLeDiff, Nat.reduceAdd, Nat.reduceSub, Nat.reduceMul, Nat.reduceEqDiff, Nat.reduceBEq, Nat.reduceBNe, reduceCtorEq, Int.reduceNeg, Ntc.good, h1]
theorem w_m1 : IntKind.i64.wrap (0 - 1) = -1 := by decide
theorem rise_snoc {α : Type} (lt : α → α → Bool) : ∀ (l : List α) (p b y : α), (p :: l)[l.length]? = some y → rise lt (some p) (l ++ [b]) = (rise lt (some p) l && lt y b)
  | [], p, b, y, h => by
    have : p = y := by simpa using h
    subst this; simp [rise]
  | x :: l, p, b, y, h => by
    rw [List.cons_append, rise, rise, rise_snoc lt l x b y (by simpa using h), Bool.and_assoc]
theorem rise_take {α : Type} (lt : α → α → Bool) (xs : List α) {i : Nat} {x y : α} (h0 : 0 < i) (hx : xs[i]? = some x) (hy : xs[i - 1]? = some y) : rise lt none (xs.take (i + 1)) = (rise lt none (xs.take i) && lt y x) := by
  have hlt := (List.getElem?_eq_some_iff.1 hx).1
  have e : xs.take (i + 1) = xs.take i ++ [x] := by rw [List.take_add_one, hx]; rfl
  have hlen : (xs.take i).length = i := by rw [List.length_take]; omega
  have hy' : (xs.take i)[i - 1]? = some y := by rw [List.getElem?_take, if_pos (by omega), hy]
  rw [e]
  cases hl : xs.take i with
  | nil => rw [hl] at hlen; simp at hlen; omega
  | cons p l =>
    rw [hl] at hlen hy'
    show rise lt (some p) (l ++ [x]) = (rise lt (some p) l && lt y x)
    refine rise_snoc lt l p x y ?_
    rw [← hy']; congr 1; simp at hlen; omega
theorem rise_congr {α : Type} (lt lt' : α → α → Bool) : ∀ (o : Option α) (xs : List α), (∀ a, a ∈ o.toList ++ xs → ∀ b, b ∈ o.toList ++ xs → lt a b = lt' a b) → rise lt o xs = rise lt' o xs
  | _, [], _ => rfl
  | none, x :: xs, h => by rw [rise, rise]; exact rise_congr lt lt' (some x) xs (by simpa using h)
  | some p, x :: xs, h => by
    rw [rise, rise, h p (by simp) x (by simp), rise_congr lt lt' (some x) xs fun a ha b hb => h a (by simp at ha ⊢; exact .inr ha) b (by simp at hb ⊢; exact .inr hb)]
theorem s78 (N : Nat) (xs : List Ntc) (hn : xs.length ≤ 1048576) (c : Ntc → Ntc → Int) (g : Nat)
    (hc : ∀ a b, Runs Try.prog g [.agg a.row, .agg b.row] (emp N) fun r H' => r = .v (.int .i64 (c a b)) ∧ H' = emp N) :
    Runs Try.prog 78 [.ro 4 (xs.map Ntc.row), .fn g []] (emp N) fun r H' => r = .v (.bool (rise (fun a b => !decide (c b a < 0)) none xs)) ∧ H' = emp N := by
  have hm : xs.length ≤ maxLen := by have : maxLen = 9223372036854775807 := rfl; omega
  refine C78_fn ?_
  unfold C78
  by_cases hx0 : xs = []
  · subst hx0
    simp only [↓RP, RQ, if_true, if_false, cond_true, cond_false, vcBin, bne, ne_eq, vcRet, resAll, resA, retOf, Int.reduceEq, Int.reduceNe, Int.reduceLT, Int.reduceLE, Int.reduceGT, Int.reduceGE, Int.reduceBEq, Int.reduceBNe, Nat.reduceLT, Nat.reduceLeDiff, Nat.reduceAdd, Nat.reduceSub, Nat.reduceMul, Nat.reduceEqDiff, Nat.reduceBEq, Nat.reduceBNe, reduceCtorEq, Int.reduceNeg, List.map_nil]
    refine vcLoop.st (σ := Unit) () (fun _ => True) (fun _ => 0) (fun _ => hl N []) (fun _ => [.any, .any, .any, .any, .any, .v (.int .i64 (-1)), .any, .any, .any, .any, .any, .any, .any, .any, .any, .any, .any, .any, .any, .any, .any, .any, .any, .any, .any]) trivial (Dr.refl _) (by simp only [↓RP, RQ, if_true, if_false, cond_true, cond_false, vcBin, bne, ne_eq, vcRet, resAll, resA, retOf, Int.reduceEq, Int.reduceNe, Int.reduceLT, Int.reduceLE, Int.reduceGT, Int.reduceGE, Int.reduceBEq, Int.reduceBNe, Nat.reduceLT, Nat.reduceLeDiff, Nat.reduceAdd, Nat.reduceSub, Nat.reduceMul, Nat.reduceEqDiff, Nat.reduceBEq, Nat.reduceBNe, reduceCtorEq, Int.reduceNeg, w_m1]) ?_
    rintro ⟨⟩ _
    simp only [↓RP, RQ, if_true, if_false, cond_true, cond_false, vcBin, bne, ne_eq, vcRet, resAll, resA, retOf, Int.reduceEq, Int.reduceNe, Int.reduceLT, Int.reduceLE, Int.reduceGT, Int.reduceGE, Int.reduceBEq, Int.reduceBNe, Nat.reduceLT, Nat.reduceLeDiff, Nat.reduceAdd, Nat.reduceSub, Nat.reduceMul, Nat.reduceEqDiff, Nat.reduceBEq, Nat.reduceBNe, reduceCtorEq, Int.reduceNeg, rise]
  · have hpos : 0 < xs.length := List.length_pos_iff.2 hx0
    simp only [↓RP, RQ, if_true, if_false, cond_true, cond_false, vcBin, bne, ne_eq, vcRet, resAll, resA, retOf, Int.reduceEq, Int.reduceNe, Int.reduceLT, Int.reduceLE, Int.reduceGT, Int.reduceGE, Int.reduceBEq, Int.reduceBNe, Nat.reduceLT, Nat.reduceLeDiff, Nat.reduceAdd, Nat.reduceSub, Nat.reduceMul, Nat.reduceEqDiff, Nat.reduceBEq, Nat.reduceBNe, reduceCtorEq, Int.reduceNeg, len_map, w_pred (show xs.length < 1048577 by omega) hpos (by decide)]
    refine vcLoop.st (σ := Nat) (xs.length - 1) (fun i => i < xs.length ∧ rise (fun a b => !decide (c b a < 0)) none xs = rise (fun a b => !decide (c b a < 0)) none (xs.take (i + 1))) (fun i => i) (fun _ => hl N [])
      (fun i => [.ro 4 (xs.map Ntc.row), .fn g [], .any, .any, .any, .v (.int .i64 (i : Nat)), .any, .any, .any, .any, .any, .any, .any, .any, .any, .any, .any, .any, .any, .any, .any, .any, .any, .any, .any]) ⟨by omega, by rw [Nat.sub_add_cancel hpos, List.take_length]⟩ (Dr.refl _) (by simp only [↓RP, RQ, if_true, if_false, cond_true, cond_false, vcBin, bne, ne_eq, vcRet, resAll, resA, retOf, Int.reduceEq, Int.reduceNe, Int.reduceLT, Int.reduceLE, Int.reduceGT, Int.reduceGE, Int.reduceBEq, Int.reduceBNe, Nat.reduceLT, Nat.reduceLeDiff, Nat.reduceAdd, Nat.reduceSub, Nat.reduceMul, Nat.reduceEqDiff, Nat.reduceBEq, Nat.reduceBNe, reduceCtorEq, Int.reduceNeg]) ?_
    rintro i ⟨hi, hg⟩
    simp only [↓RP, RQ, if_true, if_false, cond_true, cond_false, vcBin, bne, ne_eq, vcRet, resAll, resA, retOf, Int.reduceEq, Int.reduceNe, Int.reduceLT, Int.reduceLE, Int.reduceGT, Int.reduceGE, Int.reduceBEq, Int.reduceBNe, Nat.reduceLT, Nat.reduceLeDiff, Nat.reduceAdd, Nat.reduceSub, Nat.reduceMul, Nat.reduceEqDiff, Nat.reduceBEq, Nat.reduceBNe, reduceCtorEq, Int.reduceNeg]
    first | refine vcIf.dec (fun hq => ?_) (fun hq => ?_) | refine vcQIf.dec (fun hq => ?_) (fun hq => ?_)
    · have h0 : 0 < i := by simpa using hq
      obtain ⟨x, hx1, hx2, _⟩ := at_i Ntc.row xs hi
      obtain ⟨y, hy1, hy2⟩ := at_prev Ntc.row xs hi h0
      have hc' := hc x y
      rw [rise_take _ xs h0 hx1 hy1] at hg
      simp only [↓RP, RQ, if_true, if_false, cond_true, cond_false, vcBin, bne, ne_eq, vcRet, resAll, resA, retOf, Int.reduceEq, Int.reduceNe, Int.reduceLT, Int.reduceLE, Int.reduceGT, Int.reduceGE, Int.reduceBEq, Int.reduceBNe, Nat.reduceLT, Nat.reduceLeDiff, Nat.reduceAdd, Nat.reduceSub, Nat.reduceMul, Nat.reduceEqDiff, Nat.reduceBEq, Nat.reduceBNe, reduceCtorEq, Int.reduceNeg, len_map, nn, tn, lt_cast hi, lt_cast (show i - 1 < xs.length by omega), w_pred hi h0 hm, hx2, hy2, Ntc.row] at hc' ⊢
      first | refine vcCall.same (hc') ?_ | refine vcQCall.same (hc') ?_
      simp only [↓RP, RQ, if_true, if_false, cond_true, cond_false, vcBin, bne, ne_eq, vcRet, resAll, resA, retOf, Int.reduceEq, Int.reduceNe, Int.reduceLT, Int.reduceLE, Int.reduceGT, Int.reduceGE, Int.reduceBEq, Int.reduceBNe, Nat.reduceLT, Nat.reduceLeDiff, Nat.reduceAdd, Nat.reduceSub, Nat.reduceMul, Nat.reduceEqDiff, Nat.reduceBEq, Nat.reduceBNe, reduceCtorEq, Int.reduceNeg]
      first | refine vcIf.dec (fun h3 => ?_) (fun h3 => ?_) | refine vcQIf.dec (fun h3 => ?_) (fun h3 => ?_)
      · rw [decT h3, Bool.not_true, Bool.and_false] at hg
        simp only [↓RP, RQ, if_true, if_false, cond_true, cond_false, vcBin, bne, ne_eq, vcRet, resAll, resA, retOf, Int.reduceEq, Int.reduceNe, Int.reduceLT, Int.reduceLE, Int.reduceGT, Int.reduceGE, Int.reduceBEq, Int.reduceBNe, Nat.reduceLT, Nat.reduceLeDiff, Nat.reduceAdd, Nat.reduceSub, Nat.reduceMul, Nat.reduceEqDiff, Nat.reduceBEq, Nat.reduceBNe, reduceCtorEq, Int.reduceNeg, h3, hg]
      · rw [decF h3, Bool.not_false, Bool.and_true] at hg
        simp only [↓RP, RQ, if_true, if_false, cond_true, cond_false, vcBin, bne, ne_eq, vcRet, resAll, resA, retOf, Int.reduceEq, Int.reduceNe, Int.reduceLT, Int.reduceLE, Int.reduceGT, Int.reduceGE, Int.reduceBEq, Int.reduceBNe, Nat.reduceLT, Nat.reduceLeDiff, Nat.reduceAdd, Nat.reduceSub, Nat.reduceMul, Nat.reduceEqDiff, Nat.reduceBEq, Nat.reduceBNe, reduceCtorEq, Int.reduceNeg, h3, w_pred hi h0 hm]
        exact ⟨i - 1, by omega, ⟨by omega, by rw [Nat.sub_add_cancel h0]; exact hg⟩, by simp only [↓RP, RQ, if_true, if_false, cond_true, cond_false, vcBin, bne, ne_eq, vcRet, resAll, resA, retOf, Int.reduceEq, Int.reduceNe, Int.reduceLT, Int.reduceLE, Int.reduceGT, Int.reduceGE, Int.reduceBEq, Int.reduceBNe, Nat.reduceLT, Nat.reduceLeDiff, Nat.reduceAdd, Nat.reduceSub, Nat.reduceMul, Nat.reduceEqDiff, Nat.reduceBEq, Nat.reduceBNe, reduceCtorEq, Int.reduceNeg]⟩
    · have h0 : i = 0 := by simp at hq; omega
      subst h0
      have : rise (fun a b => !decide (c b a < 0)) none (xs.take (0 + 1)) = true := by
        cases xs with
        | nil => exact absurd rfl hx0
        | cons x l => rfl
      rw [this] at hg
      simp only [↓RP, RQ, if_true, if_false, cond_true, cond_false, vcBin, bne, ne_eq, vcRet, resAll, resA, retOf, Int.reduceEq, Int.reduceNe, Int.reduceLT, Int.reduceLE, Int.reduceGT, Int.reduceGE, Int.reduceBEq, Int.reduceBNe, Nat.reduceLT, Nat.reduceLeDiff, Nat.reduceAdd, Nat.reduceSub, Nat.reduceMul, Nat.reduceEqDiff, Nat.reduceBEq, Nat.reduceBNe, reduceCtorEq, Int.reduceNeg, hg]
theorem s79 (N : Nat) (a b : Ntc) : Runs Try.prog 79 [.agg a.row, .agg b.row] (emp N) fun r H' => r = .v (.int .i64 (IntKind.i64.wrap (a.sent - b.sent))) ∧ H' = emp N := by
  refine Runs.fin0 (Q := fun r H' => r = .v (.int .i64 (IntKind.i64.wrap (a.sent - b.sent)))) ?_ (fun r H' h => by rw [h]; exact .same _ (.inl rfl)) (.v _)
  refine C79_fn ?_
  unfold C79
  simp only [↓RP, RQ, if_true, if_false, cond_true, cond_false, vcBin, bne, ne_eq, vcRet, resAll, resA, retOf, Int.reduceEq, Int.reduceNe, Int.reduceLT, Int.reduceLE, Int.reduceGT, Int.reduceGE, Int.reduceBEq, Int.reduceBNe, Nat.reduceLT, Nat.reduceLeDiff, Nat.reduceAdd, Nat.reduceSub, Nat.reduceMul, Nat.reduceEqDiff, Nat.reduceBEq, Nat.reduceBNe, reduceCtorEq, Int.reduceNeg, Ntc.row]
theorem Ntc.good_b {x : Ntc} (h : x.good = true) : inR x.sent 0 36524 = true ∧ inR x.days 1 100 = true ∧ 0 ≤ x.sent ∧ x.sent ≤ 36524 := by
  simp only [Ntc.good, Bool.and_eq_true] at h
  have h1 := h.1.1.1.2
  have h2 := h1
  simp only [inR, Bool.and_eq_true, decide_eq_true_eq] at h2
  exact ⟨h1, h.1.1.2, h2⟩
theorem isDia_all (xs : List Ntc) : isDia xs = (decide ((xs.length : Int) ≤ 12) && xs.all Ntc.good && rise (fun a b => !decide (IntKind.i64.wrap (b.sent - a.sent) < 0)) none xs) := by
  rw [isDia, chk_eq]
  cases h : xs.all Ntc.good with
  | false => simp
  | true =>
    have hg := List.all_eq_true.1 h
    rw [rise_congr Ntc.le (fun a b => !decide (IntKind.i64.wrap (b.sent - a.sent) < 0)) none xs fun a ha b hb => by
      have h1 := Ntc.good_b (hg a (by simpa using ha))
      have h2 := Ntc.good_b (hg b (by simpa using hb))
      simp only [Ntc.le]
      rw [w64 (by omega) (by omega)]
      by_cases h3 : a.sent ≤ b.sent
      · rw [decT h3, decF (by omega)]; rfl
      · rw [decF h3, decT (by omega)]; rfl]
    simp [Bool.and_comm]
theorem s18 (N : Nat) (xs : List Ntc) (hn : xs.length ≤ 1048576) (hx : ∀ x, x ∈ xs → x.ok) : Runs Try.prog 18 [.ro 4 (xs.map Ntc.row)] (emp N) fun r H' => r = .v (.bool (isDia xs)) ∧ H' = emp N := by
  rw [isDia_all]
  refine C18_fn ?_
  unfold C18
  simp only [↓RP, RQ, if_true, if_false, cond_true, cond_false, vcBin, bne, ne_eq, vcRet, resAll, resA, retOf, Int.reduceEq, Int.reduceNe, Int.reduceLT, Int.reduceLE, Int.reduceGT, Int.reduceGE, Int.reduceBEq, Int.reduceBNe, Nat.reduceLT, Nat.reduceLeDiff, Nat.reduceAdd, Nat.reduceSub, Nat.reduceMul, Nat.reduceEqDiff, Nat.reduceBEq, Nat.reduceBNe, reduceCtorEq, Int.reduceNeg, len_map]
  first | refine vcIf.dec (fun h0 => ?_) (fun h0 => ?_) | refine vcQIf.dec (fun h0 => ?_) (fun h0 => ?_)
  · have h0' : decide ((xs.length : Int) ≤ 12) = false := decF (by omega)
    simp only [↓RP, RQ, if_true, if_false, cond_true, cond_false, vcBin, bne, ne_eq, vcRet, resAll, resA, retOf, Int.reduceEq, Int.reduceNe, Int.reduceLT, Int.reduceLE, Int.reduceGT, Int.reduceGE, Int.reduceBEq, Int.reduceBNe, Nat.reduceLT, Nat.reduceLeDiff, Nat.reduceAdd, Nat.reduceSub, Nat.reduceMul, Nat.reduceEqDiff, Nat.reduceBEq, Nat.reduceBNe, reduceCtorEq, Int.reduceNeg, h0, h0']
  · have h0' : decide ((xs.length : Int) ≤ 12) = true := decT (by omega)
    simp only [↓RP, RQ, if_true, if_false, cond_true, cond_false, vcBin, bne, ne_eq, vcRet, resAll, resA, retOf, Int.reduceEq, Int.reduceNe, Int.reduceLT, Int.reduceLE, Int.reduceGT, Int.reduceGE, Int.reduceBEq, Int.reduceBNe, Nat.reduceLT, Nat.reduceLeDiff, Nat.reduceAdd, Nat.reduceSub, Nat.reduceMul, Nat.reduceEqDiff, Nat.reduceBEq, Nat.reduceBNe, reduceCtorEq, Int.reduceNeg, h0]
    first | refine vcCall.same (s76 N xs hn Ntc.good _ fun M x h => s77 M x (hx x h)) ?_ | refine vcQCall.same (s76 N xs hn Ntc.good _ fun M x h => s77 M x (hx x h)) ?_
    simp only [↓RP, RQ, if_true, if_false, cond_true, cond_false, vcBin, bne, ne_eq, vcRet, resAll, resA, retOf, Int.reduceEq, Int.reduceNe, Int.reduceLT, Int.reduceLE, Int.reduceGT, Int.reduceGE, Int.reduceBEq, Int.reduceBNe, Nat.reduceLT, Nat.reduceLeDiff, Nat.reduceAdd, Nat.reduceSub, Nat.reduceMul, Nat.reduceEqDiff, Nat.reduceBEq, Nat.reduceBNe, reduceCtorEq, Int.reduceNeg]
    first | refine vcIf.of (fun h1 => ?_) (fun h1 => ?_) | refine vcQIf.of (fun h1 => ?_) (fun h1 => ?_)
    · simp only [↓RP, RQ, if_true, if_false, cond_true, cond_false, vcBin, bne, ne_eq, vcRet, resAll, resA, retOf, Int.reduceEq, Int.reduceNe, Int.reduceLT, Int.reduceLE, Int.reduceGT, Int.reduceGE, Int.reduceBEq, Int.reduceBNe, Nat.reduceLT, Nat.reduceLeDiff, Nat.reduceAdd, Nat.reduceSub, Nat.reduceMul, Nat.reduceEqDiff, Nat.reduceBEq, Nat.reduceBNe, reduceCtorEq, Int.reduceNeg, h0, h1]
      first | refine vcCall.same (s78 N xs hn (fun a b => IntKind.i64.wrap (a.sent - b.sent)) _ fun a b => s79 N a b) ?_ | refine vcQCall.same (s78 N xs hn (fun a b => IntKind.i64.wrap (a.sent - b.sent)) _ fun a b => s79 N a b) ?_
      simp only [↓RP, RQ, if_true, if_false, cond_true, cond_false, vcBin, bne, ne_eq, vcRet, resAll, resA, retOf, Int.reduceEq, Int.reduceNe, Int.reduceLT, Int.reduceLE, Int.reduceGT, Int.reduceGE, Int.reduceBEq, Int.reduceBNe, Nat.reduceLT, Nat.reduceLeDiff, Nat.reduceAdd, Nat.reduceSub, Nat.reduceMul, Nat.reduceEqDiff, Nat.reduceBEq, Nat.reduceBNe, reduceCtorEq, Int.reduceNeg, h0', h1]
    · simp only [↓RP, RQ, if_true, if_false, cond_true, cond_false, vcBin, bne, ne_eq, vcRet, resAll, resA, retOf, Int.reduceEq, Int.reduceNe, Int.reduceLT, Int.reduceLE, Int.reduceGT, Int.reduceGE, Int.reduceBEq, Int.reduceBNe, Nat.reduceLT, Nat.reduceLeDiff, Nat.reduceAdd, Nat.reduceSub, Nat.reduceMul, Nat.reduceEqDiff, Nat.reduceBEq, Nat.reduceBNe, reduceCtorEq, Int.reduceNeg, h0, h0', h1]
theorem s16 (N : Nat) (xs : List Ntc) (hn : xs.length ≤ 1048576) (hx : ∀ x, x ∈ xs → x.ok) : Runs Try.prog 16 [.ro 4 (xs.map Ntc.row)] (emp N) fun r H' => r = .v (.bool (isDia xs)) ∧ H' = emp N := by
  have hm : xs.length ≤ maxLen := by have : maxLen = 9223372036854775807 := rfl; omega
  refine Runs.fin0 (Q := fun r H' => r = .v (.bool (isDia xs))) ?_ (fun r H' h => by rw [h]; exact .same _ (.inl rfl)) (.v _)
  rw [isDia]
  refine C16_fn ?_
  unfold C16
  simp only [↓RP, RQ, if_true, if_false, cond_true, cond_false, vcBin, bne, ne_eq, vcRet, resAll, resA, retOf, Int.reduceEq, Int.reduceNe, Int.reduceLT, Int.reduceLE, Int.reduceGT, Int.reduceGE, Int.reduceBEq, Int.reduceBNe, Nat.reduceLT, Nat.reduceLeDiff, Nat.reduceAdd, Nat.reduceSub, Nat.reduceMul, Nat.reduceEqDiff, Nat.reduceBEq, Nat.reduceBNe, reduceCtorEq, Int.reduceNeg]
  refine vcLoop.st (σ := Nat × Nat) (0, N) (fun s => s.1 ≤ xs.length ∧ chk Ntc.good Ntc.le none xs = chk Ntc.good Ntc.le (if s.1 = 0 then none else xs[s.1 - 1]?) (xs.drop s.1)) (fun s => xs.length - s.1) (fun s => hl s.2 [])
    (fun s => [.ro 4 (xs.map Ntc.row), .any, .any, .v (.int .i64 s.1), .any, .any, .any, .any, .any, .any, .any, .any, .any, .any, .any, .any, .any, .any, .any, .any, .any, .any, .any, .any, .any, .any, .any, .any, .any, .any, .any, .any, .any, .any, .any, .any, .any, .any, .any, .any, .any, .any, .any, .any, .any, .any, .any, .any, .any, .any, .any, .any, .any, .any, .any, .any, .any, .any, .any, .any, .any, .any, .any, .any, .any, .any, .any, .any, .any, .any, .any, .any, .any]) ⟨Nat.zero_le _, rfl⟩ (Dr.refl _) (by simp only [↓RP, RQ, if_true, if_false, cond_true, cond_false, vcBin, bne, ne_eq, vcRet, resAll, resA, retOf, Int.reduceEq, Int.reduceNe, Int.reduceLT, Int.reduceLE, Int.reduceGT, Int.reduceGE, Int.reduceBEq, Int.reduceBNe, Nat.reduceLT, Nat.reduceLeDiff, Nat.reduceAdd, Nat.reduceSub, Nat.reduceMul, Nat.reduceEqDiff, Nat.reduceBEq, Nat.reduceBNe, reduceCtorEq, Int.reduceNeg]) ?_
  rintro ⟨i, M⟩ ⟨hi, hg⟩
  generalize hT : chk Ntc.good Ntc.le none xs = T at *
  simp only [↓RP, RQ, if_true, if_false, cond_true, cond_false, vcBin, bne, ne_eq, vcRet, resAll, resA, retOf, Int.reduceEq, Int.reduceNe, Int.reduceLT, Int.reduceLE, Int.reduceGT, Int.reduceGE, Int.reduceBEq, Int.reduceBNe, Nat.reduceLT, Nat.reduceLeDiff, Nat.reduceAdd, Nat.reduceSub, Nat.reduceMul, Nat.reduceEqDiff, Nat.reduceBEq, Nat.reduceBNe, reduceCtorEq, Int.reduceNeg, len_map]
  refine vcIf.dec (fun h' => ?_) (fun h' => ?_)
  · have hlt : i < xs.length := by simpa using h'
    obtain ⟨x, hx0, hx1, hd⟩ := at_i Ntc.row xs hlt
    have ho := hx x (List.mem_of_getElem? hx0)
    have hg0 : T = chk Ntc.good Ntc.le (if i = 0 then none else xs[i - 1]?) (x :: xs.drop (i + 1)) := by rw [← hd]; exact hg
    have hbad : x.good = false → T = false := fun hb => by
      rw [hg0]; split
      · simp [chk, hb]
      · obtain ⟨y, hy0, _⟩ := at_prev Ntc.row xs hlt (by omega)
        simp [hy0, chk, hb]
    simp only [↓RP, RQ, if_true, if_false, cond_true, cond_false, vcBin, bne, ne_eq, vcRet, resAll, resA, retOf, Int.reduceEq, Int.reduceNe, Int.reduceLT, Int.reduceLE, Int.reduceGT, Int.reduceGE, Int.reduceBEq, Int.reduceBNe, Nat.reduceLT, Nat.reduceLeDiff, Nat.reduceAdd, Nat.reduceSub, Nat.reduceMul, Nat.reduceEqDiff, Nat.reduceBEq, Nat.reduceBNe, reduceCtorEq, Int.reduceNeg, len_map, nn, tn, lt_cast hlt, hx1, Ntc.row]
    first | refine vcCall.same (Runs.pure (s71 _ _ ho.1) (Fzl.same _) (.v _)) ?_ | refine vcQCall.same (Runs.pure (s71 _ _ ho.1) (Fzl.same _) (.v _)) ?_
    simp only [↓RP, RQ, if_true, if_false, cond_true, cond_false, vcBin, bne, ne_eq, vcRet, resAll, resA, retOf, Int.reduceEq, Int.reduceNe, Int.reduceLT, Int.reduceLE, Int.reduceGT, Int.reduceGE, Int.reduceBEq, Int.reduceBNe, Nat.reduceLT, Nat.reduceLeDiff, Nat.reduceAdd, Nat.reduceSub, Nat.reduceMul, Nat.reduceEqDiff, Nat.reduceBEq, Nat.reduceBNe, reduceCtorEq, Int.reduceNeg]
    first | refine vcIf.of (fun h1 => ?_) (fun h1 => ?_) | refine vcQIf.of (fun h1 => ?_) (fun h1 => ?_)
    · simp only [↓RP, RQ, if_true, if_false, cond_true, cond_false, vcBin, bne, ne_eq, vcRet, resAll, resA, retOf, Int.reduceEq, Int.reduceNe, Int.reduceLT, Int.reduceLE, Int.reduceGT, Int.reduceGE, Int.reduceBEq, Int.reduceBNe, Nat.reduceLT, Nat.reduceLeDiff, Nat.reduceAdd, Nat.reduceSub, Nat.reduceMul, Nat.reduceEqDiff, Nat.reduceBEq, Nat.reduceBNe, reduceCtorEq, Int.reduceNeg, h1]
      first | refine vcCall.same (Runs.pure (s72 _ _) (Fzl.same _) (.v _)) ?_ | refine vcQCall.same (Runs.pure (s72 _ _) (Fzl.same _) (.v _)) ?_
      simp only [↓RP, RQ, if_true, if_false, cond_true, cond_false, vcBin, bne, ne_eq, vcRet, resAll, resA, retOf, Int.reduceEq, Int.reduceNe, Int.reduceLT, Int.reduceLE, Int.reduceGT, Int.reduceGE, Int.reduceBEq, Int.reduceBNe, Nat.reduceLT, Nat.reduceLeDiff, Nat.reduceAdd, Nat.reduceSub, Nat.reduceMul, Nat.reduceEqDiff, Nat.reduceBEq, Nat.reduceBNe, reduceCtorEq, Int.reduceNeg]
      first | refine vcIf.of (fun h2 => ?_) (fun h2 => ?_) | refine vcQIf.of (fun h2 => ?_) (fun h2 => ?_)
      · simp only [↓RP, RQ, if_true, if_false, cond_true, cond_false, vcBin, bne, ne_eq, vcRet, resAll, resA, retOf, Int.reduceEq, Int.reduceNe, Int.reduceLT, Int.reduceLE, Int.reduceGT, Int.reduceGE, Int.reduceBEq, Int.reduceBNe, Nat.reduceLT, Nat.reduceLeDiff, Nat.reduceAdd, Nat.reduceSub, Nat.reduceMul, Nat.reduceEqDiff, Nat.reduceBEq, Nat.reduceBNe, reduceCtorEq, Int.reduceNeg, h1, h2]
        first | refine vcCall.same (Runs.pure (s73 _ _ _ _) (Fzl.same _) (.v _)) ?_ | refine vcQCall.same (Runs.pure (s73 _ _ _ _) (Fzl.same _) (.v _)) ?_
        simp only [↓RP, RQ, if_true, if_false, cond_true, cond_false, vcBin, bne, ne_eq, vcRet, resAll, resA, retOf, Int.reduceEq, Int.reduceNe, Int.reduceLT, Int.reduceLE, Int.reduceGT, Int.reduceGE, Int.reduceBEq, Int.reduceBNe, Nat.reduceLT, Nat.reduceLeDiff, Nat.reduceAdd, Nat.reduceSub, Nat.reduceMul, Nat.reduceEqDiff, Nat.reduceBEq, Nat.reduceBNe, reduceCtorEq, Int.reduceNeg]
        first | refine vcIf.of (fun h3 => ?_) (fun h3 => ?_) | refine vcQIf.of (fun h3 => ?_) (fun h3 => ?_)
        · simp only [↓RP, RQ, if_true, if_false, cond_true, cond_false, vcBin, bne, ne_eq, vcRet, resAll, resA, retOf, Int.reduceEq, Int.reduceNe, Int.reduceLT, Int.reduceLE, Int.reduceGT, Int.reduceGE, Int.reduceBEq, Int.reduceBNe, Nat.reduceLT, Nat.reduceLeDiff, Nat.reduceAdd, Nat.reduceSub, Nat.reduceMul, Nat.reduceEqDiff, Nat.reduceBEq, Nat.reduceBNe, reduceCtorEq, Int.reduceNeg, h1, h2, h3]
          first | refine vcIf.of (fun h4 => ?_) (fun h4 => ?_) | refine vcQIf.of (fun h4 => ?_) (fun h4 => ?_)
          · simp only [↓RP, RQ, if_true, if_false, cond_true, cond_false, vcBin, bne, ne_eq, vcRet, resAll, resA, retOf, Int.reduceEq, Int.reduceNe, Int.reduceLT, Int.reduceLE, Int.reduceGT, Int.reduceGE, Int.reduceBEq, Int.reduceBNe, Nat.reduceLT, Nat.reduceLeDiff, Nat.reduceAdd, Nat.reduceSub, Nat.reduceMul, Nat.reduceEqDiff, Nat.reduceBEq, Nat.reduceBNe, reduceCtorEq, Int.reduceNeg, h1, h2, h3, h4]
            first | refine vcIf.dec (fun h0 => ?_) (fun h0 => ?_) | refine vcQIf.dec (fun h0 => ?_) (fun h0 => ?_)
            · have h0' : 0 < i := by simpa using h0
              obtain ⟨y, hy0, hy⟩ := at_prev Ntc.row xs hlt h0'
              simp only [↓RP, RQ, if_true, if_false, cond_true, cond_false, vcBin, bne, ne_eq, vcRet, resAll, resA, retOf, Int.reduceEq, Int.reduceNe, Int.reduceLT, Int.reduceLE, Int.reduceGT, Int.reduceGE, Int.reduceBEq, Int.reduceBNe, Nat.reduceLT, Nat.reduceLeDiff, Nat.reduceAdd, Nat.reduceSub, Nat.reduceMul, Nat.reduceEqDiff, Nat.reduceBEq, Nat.reduceBNe, reduceCtorEq, Int.reduceNeg, h1, h2, h3, h4, gt_cast h0', nn, tn, lt_cast (show i - 1 < xs.length by omega), w_pred hlt h0' hm, hy, Ntc.row, len_map]
              first | refine vcIf.dec (fun h9 => ?_) (fun h9 => ?_) | refine vcQIf.dec (fun h9 => ?_) (fun h9 => ?_)
              · have h9' : ¬ y.sent ≤ x.sent := by omega
                have hg' : T = false := by rw [hg0, if_neg (by omega), hy0, chk]; simp [Ntc.le, h9']
                simp only [↓RP, RQ, if_true, if_false, cond_true, cond_false, vcBin, bne, ne_eq, vcRet, resAll, resA, retOf, Int.reduceEq, Int.reduceNe, Int.reduceLT, Int.reduceLE, Int.reduceGT, Int.reduceGE, Int.reduceBEq, Int.reduceBNe, Nat.reduceLT, Nat.reduceLeDiff, Nat.reduceAdd, Nat.reduceSub, Nat.reduceMul, Nat.reduceEqDiff, Nat.reduceBEq, Nat.reduceBNe, reduceCtorEq, Int.reduceNeg, h1, h2, h3, h4, h9, gt_cast h0', hg']
              · have h9' : y.sent ≤ x.sent := by omega
                simp only [↓RP, RQ, if_true, if_false, cond_true, cond_false, vcBin, bne, ne_eq, vcRet, resAll, resA, retOf, Int.reduceEq, Int.reduceNe, Int.reduceLT, Int.reduceLE, Int.reduceGT, Int.reduceGE, Int.reduceBEq, Int.reduceBNe, Nat.reduceLT, Nat.reduceLeDiff, Nat.reduceAdd, Nat.reduceSub, Nat.reduceMul, Nat.reduceEqDiff, Nat.reduceBEq, Nat.reduceBNe, reduceCtorEq, Int.reduceNeg, h1, h2, h3, h4, h9, gt_cast h0']
                refine vcCall.to (Got1.at (q74 _ x h2 h3) (Fzl.same _) (norefs_map int1_nr _) (noros_map int1_no _)) ?_
                simp only [↓RP, RQ, if_true, if_false, cond_true, cond_false, vcBin, bne, ne_eq, vcRet, resAll, resA, retOf, Int.reduceEq, Int.reduceNe, Int.reduceLT, Int.reduceLE, Int.reduceGT, Int.reduceGE, Int.reduceBEq, Int.reduceBNe, Nat.reduceLT, Nat.reduceLeDiff, Nat.reduceAdd, Nat.reduceSub, Nat.reduceMul, Nat.reduceEqDiff, Nat.reduceBEq, Nat.reduceBNe, reduceCtorEq, Int.reduceNeg, Ntc.rem, rows3, len_cl, len_nl, List.getD_cons_succ, List.getD_cons_zero, Int.reduceToNat, lit3]
                first | refine vcCall.same (Runs.pure (s72 _ _) (Fzl.same _) (.v _)) ?_ | refine vcQCall.same (Runs.pure (s72 _ _) (Fzl.same _) (.v _)) ?_
                simp only [↓RP, RQ, if_true, if_false, cond_true, cond_false, vcBin, bne, ne_eq, vcRet, resAll, resA, retOf, Int.reduceEq, Int.reduceNe, Int.reduceLT, Int.reduceLE, Int.reduceGT, Int.reduceGE, Int.reduceBEq, Int.reduceBNe, Nat.reduceLT, Nat.reduceLeDiff, Nat.reduceAdd, Nat.reduceSub, Nat.reduceMul, Nat.reduceEqDiff, Nat.reduceBEq, Nat.reduceBNe, reduceCtorEq, Int.reduceNeg]
                first | refine vcIf.of (fun h8 => ?_) (fun h8 => ?_) | refine vcQIf.of (fun h8 => ?_) (fun h8 => ?_)
                · have hg' : T = chk Ntc.good Ntc.le (some x) (xs.drop (i + 1)) := by rw [hg0, if_neg (by omega), hy0, chk]; simp [Ntc.le, Ntc.good, h1, h2, h3, h4, h8, h9']
                  simp only [↓RP, RQ, if_true, if_false, cond_true, cond_false, vcBin, bne, ne_eq, vcRet, resAll, resA, retOf, Int.reduceEq, Int.reduceNe, Int.reduceLT, Int.reduceLE, Int.reduceGT, Int.reduceGE, Int.reduceBEq, Int.reduceBNe, Nat.reduceLT, Nat.reduceLeDiff, Nat.reduceAdd, Nat.reduceSub, Nat.reduceMul, Nat.reduceEqDiff, Nat.reduceBEq, Nat.reduceBNe, reduceCtorEq, Int.reduceNeg, h8, w_succ hlt hm]
                  exact ⟨(i + 1, M + 2), by show xs.length - (i + 1) < xs.length - i; omega, ⟨hlt, by rw [hg', if_neg (by omega), Nat.add_sub_cancel, hx0]⟩, by simp only [↓RP, RQ, if_true, if_false, cond_true, cond_false, vcBin, bne, ne_eq, vcRet, resAll, resA, retOf, Int.reduceEq, Int.reduceNe, Int.reduceLT, Int.reduceLE, Int.reduceGT, Int.reduceGE, Int.reduceBEq, Int.reduceBNe, Nat.reduceLT, Nat.reduceLeDiff, Nat.reduceAdd, Nat.reduceSub, Nat.reduceMul, Nat.reduceEqDiff, Nat.reduceBEq, Nat.reduceBNe, reduceCtorEq, Int.reduceNeg], by simp only [↓RP, RQ, if_true, if_false, cond_true, cond_false, vcBin, bne, ne_eq, vcRet, resAll, resA, retOf, Int.reduceEq, Int.reduceNe, Int.reduceLT, Int.reduceLE, Int.reduceGT, Int.reduceGE, Int.reduceBEq, Int.reduceBNe, Nat.reduceLT, Nat.reduceLeDiff, Nat.reduceAdd, Nat.reduceSub, Nat.reduceMul, Nat.reduceEqDiff, Nat.reduceBEq, Nat.reduceBNe, reduceCtorEq, Int.reduceNeg]⟩
                · have hg' : T = false := hbad (by simp [Ntc.good, h1, h2, h3, h4, h8])
                  simp only [↓RP, RQ, if_true, if_false, cond_true, cond_false, vcBin, bne, ne_eq, vcRet, resAll, resA, retOf, Int.reduceEq, Int.reduceNe, Int.reduceLT, Int.reduceLE, Int.reduceGT, Int.reduceGE, Int.reduceBEq, Int.reduceBNe, Nat.reduceLT, Nat.reduceLeDiff, Nat.reduceAdd, Nat.reduceSub, Nat.reduceMul, Nat.reduceEqDiff, Nat.reduceBEq, Nat.reduceBNe, reduceCtorEq, Int.reduceNeg, h1, h2, h3, h4, h8, hg']
            · have h0' : i = 0 := by simp at h0; omega
              simp only [↓RP, RQ, if_true, if_false, cond_true, cond_false, vcBin, bne, ne_eq, vcRet, resAll, resA, retOf, Int.reduceEq, Int.reduceNe, Int.reduceLT, Int.reduceLE, Int.reduceGT, Int.reduceGE, Int.reduceBEq, Int.reduceBNe, Nat.reduceLT, Nat.reduceLeDiff, Nat.reduceAdd, Nat.reduceSub, Nat.reduceMul, Nat.reduceEqDiff, Nat.reduceBEq, Nat.reduceBNe, reduceCtorEq, Int.reduceNeg, h1, h2, h3, h4, h0]
              refine vcCall.to (Got1.at (q74 _ x h2 h3) (Fzl.same _) (norefs_map int1_nr _) (noros_map int1_no _)) ?_
              simp only [↓RP, RQ, if_true, if_false, cond_true, cond_false, vcBin, bne, ne_eq, vcRet, resAll, resA, retOf, Int.reduceEq, Int.reduceNe, Int.reduceLT, Int.reduceLE, Int.reduceGT, Int.reduceGE, Int.reduceBEq, Int.reduceBNe, Nat.reduceLT, Nat.reduceLeDiff, Nat.reduceAdd, Nat.reduceSub, Nat.reduceMul, Nat.reduceEqDiff, Nat.reduceBEq, Nat.reduceBNe, reduceCtorEq, Int.reduceNeg, Ntc.rem, rows3, len_cl, len_nl, List.getD_cons_succ, List.getD_cons_zero, Int.reduceToNat, lit3]
              first | refine vcCall.same (Runs.pure (s72 _ _) (Fzl.same _) (.v _)) ?_ | refine vcQCall.same (Runs.pure (s72 _ _) (Fzl.same _) (.v _)) ?_
              simp only [↓RP, RQ, if_true, if_false, cond_true, cond_false, vcBin, bne, ne_eq, vcRet, resAll, resA, retOf, Int.reduceEq, Int.reduceNe, Int.reduceLT, Int.reduceLE, Int.reduceGT, Int.reduceGE, Int.reduceBEq, Int.reduceBNe, Nat.reduceLT, Nat.reduceLeDiff, Nat.reduceAdd, Nat.reduceSub, Nat.reduceMul, Nat.reduceEqDiff, Nat.reduceBEq, Nat.reduceBNe, reduceCtorEq, Int.reduceNeg]
              first | refine vcIf.of (fun h8 => ?_) (fun h8 => ?_) | refine vcQIf.of (fun h8 => ?_) (fun h8 => ?_)
              · have hg' : T = chk Ntc.good Ntc.le (some x) (xs.drop (i + 1)) := by rw [hg0, if_pos h0', chk]; simp [Ntc.good, h1, h2, h3, h4, h8]
                simp only [↓RP, RQ, if_true, if_false, cond_true, cond_false, vcBin, bne, ne_eq, vcRet, resAll, resA, retOf, Int.reduceEq, Int.reduceNe, Int.reduceLT, Int.reduceLE, Int.reduceGT, Int.reduceGE, Int.reduceBEq, Int.reduceBNe, Nat.reduceLT, Nat.reduceLeDiff, Nat.reduceAdd, Nat.reduceSub, Nat.reduceMul, Nat.reduceEqDiff, Nat.reduceBEq, Nat.reduceBNe, reduceCtorEq, Int.reduceNeg, h8, w_succ hlt hm]
                exact ⟨(i + 1, M + 2), by show xs.length - (i + 1) < xs.length - i; omega, ⟨hlt, by rw [hg', if_neg (by omega), Nat.add_sub_cancel, hx0]⟩, by simp only [↓RP, RQ, if_true, if_false, cond_true, cond_false, vcBin, bne, ne_eq, vcRet, resAll, resA, retOf, Int.reduceEq, Int.reduceNe, Int.reduceLT, Int.reduceLE, Int.reduceGT, Int.reduceGE, Int.reduceBEq, Int.reduceBNe, Nat.reduceLT, Nat.reduceLeDiff, Nat.reduceAdd, Nat.reduceSub, Nat.reduceMul, Nat.reduceEqDiff, Nat.reduceBEq, Nat.reduceBNe, reduceCtorEq, Int.reduceNeg], by simp only [↓RP, RQ, if_true, if_false, cond_true, cond_false, vcBin, bne, ne_eq, vcRet, resAll, resA, retOf, Int.reduceEq, Int.reduceNe, Int.reduceLT, Int.reduceLE, Int.reduceGT, Int.reduceGE, Int.reduceBEq, Int.reduceBNe, Nat.reduceLT, Nat.reduceLeDiff, Nat.reduceAdd, Nat.reduceSub, Nat.reduceMul, Nat.reduceEqDiff, Nat.reduceBEq, Nat.reduceBNe, reduceCtorEq, Int.reduceNeg]⟩
              · have hg' : T = false := hbad (by simp [Ntc.good, h1, h2, h3, h4, h8])
                simp only [↓RP, RQ, if_true, if_false, cond_true, cond_false, vcBin, bne, ne_eq, vcRet, resAll, resA, retOf, Int.reduceEq, Int.reduceNe, Int.reduceLT, Int.reduceLE, Int.reduceGT, Int.reduceGE, Int.reduceBEq, Int.reduceBNe, Nat.reduceLT, Nat.reduceLeDiff, Nat.reduceAdd, Nat.reduceSub, Nat.reduceMul, Nat.reduceEqDiff, Nat.reduceBEq, Nat.reduceBNe, reduceCtorEq, Int.reduceNeg, h1, h2, h3, h4, h8, hg']
          · simp only [↓RP, RQ, if_true, if_false, cond_true, cond_false, vcBin, bne, ne_eq, vcRet, resAll, resA, retOf, Int.reduceEq, Int.reduceNe, Int.reduceLT, Int.reduceLE, Int.reduceGT, Int.reduceGE, Int.reduceBEq, Int.reduceBNe, Nat.reduceLT, Nat.reduceLeDiff, Nat.reduceAdd, Nat.reduceSub, Nat.reduceMul, Nat.reduceEqDiff, Nat.reduceBEq, Nat.reduceBNe, reduceCtorEq, Int.reduceNeg, h1, h2, h3, h4]
            first | refine vcCall.same (Runs.pure (s72 _ _) (Fzl.same _) (.v _)) ?_ | refine vcQCall.same (Runs.pure (s72 _ _) (Fzl.same _) (.v _)) ?_
            simp only [↓RP, RQ, if_true, if_false, cond_true, cond_false, vcBin, bne, ne_eq, vcRet, resAll, resA, retOf, Int.reduceEq, Int.reduceNe, Int.reduceLT, Int.reduceLE, Int.reduceGT, Int.reduceGE, Int.reduceBEq, Int.reduceBNe, Nat.reduceLT, Nat.reduceLeDiff, Nat.reduceAdd, Nat.reduceSub, Nat.reduceMul, Nat.reduceEqDiff, Nat.reduceBEq, Nat.reduceBNe, reduceCtorEq, Int.reduceNeg]
            first | refine vcIf.of (fun h5 => ?_) (fun h5 => ?_) | refine vcQIf.of (fun h5 => ?_) (fun h5 => ?_)
            · simp only [↓RP, RQ, if_true, if_false, cond_true, cond_false, vcBin, bne, ne_eq, vcRet, resAll, resA, retOf, Int.reduceEq, Int.reduceNe, Int.reduceLT, Int.reduceLE, Int.reduceGT, Int.reduceGE, Int.reduceBEq, Int.reduceBNe, Nat.reduceLT, Nat.reduceLeDiff, Nat.reduceAdd, Nat.reduceSub, Nat.reduceMul, Nat.reduceEqDiff, Nat.reduceBEq, Nat.reduceBNe, reduceCtorEq, Int.reduceNeg, h1, h2, h3, h4, h5]
              first | refine vcIf.dec (fun h6 => ?_) (fun h6 => ?_) | refine vcQIf.dec (fun h6 => ?_) (fun h6 => ?_)
              · have h6' : ¬ x.sent ≤ x.done := by omega
                have hg' : T = false := hbad (by simp [Ntc.good, h1, h2, h3, h4, h5, h6, h6'])
                simp only [↓RP, RQ, if_true, if_false, cond_true, cond_false, vcBin, bne, ne_eq, vcRet, resAll, resA, retOf, Int.reduceEq, Int.reduceNe, Int.reduceLT, Int.reduceLE, Int.reduceGT, Int.reduceGE, Int.reduceBEq, Int.reduceBNe, Nat.reduceLT, Nat.reduceLeDiff, Nat.reduceAdd, Nat.reduceSub, Nat.reduceMul, Nat.reduceEqDiff, Nat.reduceBEq, Nat.reduceBNe, reduceCtorEq, Int.reduceNeg, h1, h2, h3, h4, h5, h6, h6', hg']
              · have h6' : x.sent ≤ x.done := by omega
                simp only [↓RP, RQ, if_true, if_false, cond_true, cond_false, vcBin, bne, ne_eq, vcRet, resAll, resA, retOf, Int.reduceEq, Int.reduceNe, Int.reduceLT, Int.reduceLE, Int.reduceGT, Int.reduceGE, Int.reduceBEq, Int.reduceBNe, Nat.reduceLT, Nat.reduceLeDiff, Nat.reduceAdd, Nat.reduceSub, Nat.reduceMul, Nat.reduceEqDiff, Nat.reduceBEq, Nat.reduceBNe, reduceCtorEq, Int.reduceNeg, h1, h2, h3, h4, h5, h6]
                first | refine vcIf.dec (fun h0 => ?_) (fun h0 => ?_) | refine vcQIf.dec (fun h0 => ?_) (fun h0 => ?_)
                · have h0' : 0 < i := by simpa using h0
                  obtain ⟨y, hy0, hy⟩ := at_prev Ntc.row xs hlt h0'
                  simp only [↓RP, RQ, if_true, if_false, cond_true, cond_false, vcBin, bne, ne_eq, vcRet, resAll, resA, retOf, Int.reduceEq, Int.reduceNe, Int.reduceLT, Int.reduceLE, Int.reduceGT, Int.reduceGE, Int.reduceBEq, Int.reduceBNe, Nat.reduceLT, Nat.reduceLeDiff, Nat.reduceAdd, Nat.reduceSub, Nat.reduceMul, Nat.reduceEqDiff, Nat.reduceBEq, Nat.reduceBNe, reduceCtorEq, Int.reduceNeg, h1, h2, h3, h4, h5, h6, h6', gt_cast h0', nn, tn, lt_cast (show i - 1 < xs.length by omega), w_pred hlt h0' hm, hy, Ntc.row, len_map]
                  first | refine vcIf.dec (fun h9 => ?_) (fun h9 => ?_) | refine vcQIf.dec (fun h9 => ?_) (fun h9 => ?_)
                  · have h9' : ¬ y.sent ≤ x.sent := by omega
                    have hg' : T = false := by rw [hg0, if_neg (by omega), hy0, chk]; simp [Ntc.le, h9']
                    simp only [↓RP, RQ, if_true, if_false, cond_true, cond_false, vcBin, bne, ne_eq, vcRet, resAll, resA, retOf, Int.reduceEq, Int.reduceNe, Int.reduceLT, Int.reduceLE, Int.reduceGT, Int.reduceGE, Int.reduceBEq, Int.reduceBNe, Nat.reduceLT, Nat.reduceLeDiff, Nat.reduceAdd, Nat.reduceSub, Nat.reduceMul, Nat.reduceEqDiff, Nat.reduceBEq, Nat.reduceBNe, reduceCtorEq, Int.reduceNeg, h1, h2, h3, h4, h5, h6, h6', h9, gt_cast h0', hg']
                  · have h9' : y.sent ≤ x.sent := by omega
                    simp only [↓RP, RQ, if_true, if_false, cond_true, cond_false, vcBin, bne, ne_eq, vcRet, resAll, resA, retOf, Int.reduceEq, Int.reduceNe, Int.reduceLT, Int.reduceLE, Int.reduceGT, Int.reduceGE, Int.reduceBEq, Int.reduceBNe, Nat.reduceLT, Nat.reduceLeDiff, Nat.reduceAdd, Nat.reduceSub, Nat.reduceMul, Nat.reduceEqDiff, Nat.reduceBEq, Nat.reduceBNe, reduceCtorEq, Int.reduceNeg, h1, h2, h3, h4, h5, h6, h6', h9, gt_cast h0']
                    refine vcCall.to (Got1.at (q74 _ x h2 h3) (Fzl.same _) (norefs_map int1_nr _) (noros_map int1_no _)) ?_
                    simp only [↓RP, RQ, if_true, if_false, cond_true, cond_false, vcBin, bne, ne_eq, vcRet, resAll, resA, retOf, Int.reduceEq, Int.reduceNe, Int.reduceLT, Int.reduceLE, Int.reduceGT, Int.reduceGE, Int.reduceBEq, Int.reduceBNe, Nat.reduceLT, Nat.reduceLeDiff, Nat.reduceAdd, Nat.reduceSub, Nat.reduceMul, Nat.reduceEqDiff, Nat.reduceBEq, Nat.reduceBNe, reduceCtorEq, Int.reduceNeg, Ntc.rem, rows3, len_cl, len_nl, List.getD_cons_succ, List.getD_cons_zero, Int.reduceToNat, lit3]
                    first | refine vcCall.same (Runs.pure (s72 _ _) (Fzl.same _) (.v _)) ?_ | refine vcQCall.same (Runs.pure (s72 _ _) (Fzl.same _) (.v _)) ?_
                    simp only [↓RP, RQ, if_true, if_false, cond_true, cond_false, vcBin, bne, ne_eq, vcRet, resAll, resA, retOf, Int.reduceEq, Int.reduceNe, Int.reduceLT, Int.reduceLE, Int.reduceGT, Int.reduceGE, Int.reduceBEq, Int.reduceBNe, Nat.reduceLT, Nat.reduceLeDiff, Nat.reduceAdd, Nat.reduceSub, Nat.reduceMul, Nat.reduceEqDiff, Nat.reduceBEq, Nat.reduceBNe, reduceCtorEq, Int.reduceNeg]
                    first | refine vcIf.of (fun h8 => ?_) (fun h8 => ?_) | refine vcQIf.of (fun h8 => ?_) (fun h8 => ?_)
                    · have hg' : T = chk Ntc.good Ntc.le (some x) (xs.drop (i + 1)) := by rw [hg0, if_neg (by omega), hy0, chk]; simp [Ntc.le, Ntc.good, h1, h2, h3, h4, h5, h6, h6', h8, h9']
                      simp only [↓RP, RQ, if_true, if_false, cond_true, cond_false, vcBin, bne, ne_eq, vcRet, resAll, resA, retOf, Int.reduceEq, Int.reduceNe, Int.reduceLT, Int.reduceLE, Int.reduceGT, Int.reduceGE, Int.reduceBEq, Int.reduceBNe, Nat.reduceLT, Nat.reduceLeDiff, Nat.reduceAdd, Nat.reduceSub, Nat.reduceMul, Nat.reduceEqDiff, Nat.reduceBEq, Nat.reduceBNe, reduceCtorEq, Int.reduceNeg, h8, w_succ hlt hm]
                      exact ⟨(i + 1, M + 2), by show xs.length - (i + 1) < xs.length - i; omega, ⟨hlt, by rw [hg', if_neg (by omega), Nat.add_sub_cancel, hx0]⟩, by simp only [↓RP, RQ, if_true, if_false, cond_true, cond_false, vcBin, bne, ne_eq, vcRet, resAll, resA, retOf, Int.reduceEq, Int.reduceNe, Int.reduceLT, Int.reduceLE, Int.reduceGT, Int.reduceGE, Int.reduceBEq, Int.reduceBNe, Nat.reduceLT, Nat.reduceLeDiff, Nat.reduceAdd, Nat.reduceSub, Nat.reduceMul, Nat.reduceEqDiff, Nat.reduceBEq, Nat.reduceBNe, reduceCtorEq, Int.reduceNeg], by simp only [↓RP, RQ, if_true, if_false, cond_true, cond_false, vcBin, bne, ne_eq, vcRet, resAll, resA, retOf, Int.reduceEq, Int.reduceNe, Int.reduceLT, Int.reduceLE, Int.reduceGT, Int.reduceGE, Int.reduceBEq, Int.reduceBNe, Nat.reduceLT, Nat.reduceLeDiff, Nat.reduceAdd, Nat.reduceSub, Nat.reduceMul, Nat.reduceEqDiff, Nat.reduceBEq, Nat.reduceBNe, reduceCtorEq, Int.reduceNeg]⟩
                    · have hg' : T = false := hbad (by simp [Ntc.good, h1, h2, h3, h4, h5, h6, h6', h8])
                      simp only [↓RP, RQ, if_true, if_false, cond_true, cond_false, vcBin, bne, ne_eq, vcRet, resAll, resA, retOf, Int.reduceEq, Int.reduceNe, Int.reduceLT, Int.reduceLE, Int.reduceGT, Int.reduceGE, Int.reduceBEq, Int.reduceBNe, Nat.reduceLT, Nat.reduceLeDiff, Nat.reduceAdd, Nat.reduceSub, Nat.reduceMul, Nat.reduceEqDiff, Nat.reduceBEq, Nat.reduceBNe, reduceCtorEq, Int.reduceNeg, h1, h2, h3, h4, h5, h6, h6', h8, hg']
                · have h0' : i = 0 := by simp at h0; omega
                  simp only [↓RP, RQ, if_true, if_false, cond_true, cond_false, vcBin, bne, ne_eq, vcRet, resAll, resA, retOf, Int.reduceEq, Int.reduceNe, Int.reduceLT, Int.reduceLE, Int.reduceGT, Int.reduceGE, Int.reduceBEq, Int.reduceBNe, Nat.reduceLT, Nat.reduceLeDiff, Nat.reduceAdd, Nat.reduceSub, Nat.reduceMul, Nat.reduceEqDiff, Nat.reduceBEq, Nat.reduceBNe, reduceCtorEq, Int.reduceNeg, h1, h2, h3, h4, h5, h6, h6', h0]
                  refine vcCall.to (Got1.at (q74 _ x h2 h3) (Fzl.same _) (norefs_map int1_nr _) (noros_map int1_no _)) ?_
                  simp only [↓RP, RQ, if_true, if_false, cond_true, cond_false, vcBin, bne, ne_eq, vcRet, resAll, resA, retOf, Int.reduceEq, Int.reduceNe, Int.reduceLT, Int.reduceLE, Int.reduceGT, Int.reduceGE, Int.reduceBEq, Int.reduceBNe, Nat.reduceLT, Nat.reduceLeDiff, Nat.reduceAdd, Nat.reduceSub, Nat.reduceMul, Nat.reduceEqDiff, Nat.reduceBEq, Nat.reduceBNe, reduceCtorEq, Int.reduceNeg, Ntc.rem, rows3, len_cl, len_nl, List.getD_cons_succ, List.getD_cons_zero, Int.reduceToNat, lit3]
                  first | refine vcCall.same (Runs.pure (s72 _ _) (Fzl.same _) (.v _)) ?_ | refine vcQCall.same (Runs.pure (s72 _ _) (Fzl.same _) (.v _)) ?_
                  simp only [↓RP, RQ, if_true, if_false, cond_true, cond_false, vcBin, bne, ne_eq, vcRet, resAll, resA, retOf, Int.reduceEq, Int.reduceNe, Int.reduceLT, Int.reduceLE, Int.reduceGT, Int.reduceGE, Int.reduceBEq, Int.reduceBNe, Nat.reduceLT, Nat.reduceLeDiff, Nat.reduceAdd, Nat.reduceSub, Nat.reduceMul, Nat.reduceEqDiff, Nat.reduceBEq, Nat.reduceBNe, reduceCtorEq, Int.reduceNeg]
                  first | refine vcIf.of (fun h8 => ?_) (fun h8 => ?_) | refine vcQIf.of (fun h8 => ?_) (fun h8 => ?_)
                  · have hg' : T = chk Ntc.good Ntc.le (some x) (xs.drop (i + 1)) := by rw [hg0, if_pos h0', chk]; simp [Ntc.good, h1, h2, h3, h4, h5, h6, h6', h8]
                    simp only [↓RP, RQ, if_true, if_false, cond_true, cond_false, vcBin, bne, ne_eq, vcRet, resAll, resA, retOf, Int.reduceEq, Int.reduceNe, Int.reduceLT, Int.reduceLE, Int.reduceGT, Int.reduceGE, Int.reduceBEq, Int.reduceBNe, Nat.reduceLT, Nat.reduceLeDiff, Nat.reduceAdd, Nat.reduceSub, Nat.reduceMul, Nat.reduceEqDiff, Nat.reduceBEq, Nat.reduceBNe, reduceCtorEq, Int.reduceNeg, h8, w_succ hlt hm]
                    exact ⟨(i + 1, M + 2), by show xs.length - (i + 1) < xs.length - i; omega, ⟨hlt, by rw [hg', if_neg (by omega), Nat.add_sub_cancel, hx0]⟩, by simp only [↓RP, RQ, if_true, if_false, cond_true, cond_false, vcBin, bne, ne_eq, vcRet, resAll, resA, retOf, Int.reduceEq, Int.reduceNe, Int.reduceLT, Int.reduceLE, Int.reduceGT, Int.reduceGE, Int.reduceBEq, Int.reduceBNe, Nat.reduceLT, Nat.reduceLeDiff, Nat.reduceAdd, Nat.reduceSub, Nat.reduceMul, Nat.reduceEqDiff, Nat.reduceBEq, Nat.reduceBNe, reduceCtorEq, Int.reduceNeg], by simp only [↓RP, RQ, if_true, if_false, cond_true, cond_false, vcBin, bne, ne_eq, vcRet, resAll, resA, retOf, Int.reduceEq, Int.reduceNe, Int.reduceLT, Int.reduceLE, Int.reduceGT, Int.reduceGE, Int.reduceBEq, Int.reduceBNe, Nat.reduceLT, Nat.reduceLeDiff, Nat.reduceAdd, Nat.reduceSub, Nat.reduceMul, Nat.reduceEqDiff, Nat.reduceBEq, Nat.reduceBNe, reduceCtorEq, Int.reduceNeg]⟩
                  · have hg' : T = false := hbad (by simp [Ntc.good, h1, h2, h3, h4, h5, h6, h6', h8])
                    simp only [↓RP, RQ, if_true, if_false, cond_true, cond_false, vcBin, bne, ne_eq, vcRet, resAll, resA, retOf, Int.reduceEq, Int.reduceNe, Int.reduceLT, Int.reduceLE, Int.reduceGT, Int.reduceGE, Int.reduceBEq, Int.reduceBNe, Nat.reduceLT, Nat.reduceLeDiff, Nat.reduceAdd, Nat.reduceSub, Nat.reduceMul, Nat.reduceEqDiff, Nat.reduceBEq, Nat.reduceBNe, reduceCtorEq, Int.reduceNeg, h1, h2, h3, h4, h5, h6, h6', h8, hg']
            · have hg' : T = false := hbad (by simp [Ntc.good, h1, h2, h3, h4, h5])
              simp only [↓RP, RQ, if_true, if_false, cond_true, cond_false, vcBin, bne, ne_eq, vcRet, resAll, resA, retOf, Int.reduceEq, Int.reduceNe, Int.reduceLT, Int.reduceLE, Int.reduceGT, Int.reduceGE, Int.reduceBEq, Int.reduceBNe, Nat.reduceLT, Nat.reduceLeDiff, Nat.reduceAdd, Nat.reduceSub, Nat.reduceMul, Nat.reduceEqDiff, Nat.reduceBEq, Nat.reduceBNe, reduceCtorEq, Int.reduceNeg, h1, h2, h3, h4, h5, hg']
        · have hg' : T = false := hbad (by simp [Ntc.good, h1, h2, h3])
          simp only [↓RP, RQ, if_true, if_false, cond_true, cond_false, vcBin, bne, ne_eq, vcRet, resAll, resA, retOf, Int.reduceEq, Int.reduceNe, Int.reduceLT, Int.reduceLE, Int.reduceGT, Int.reduceGE, Int.reduceBEq, Int.reduceBNe, Nat.reduceLT, Nat.reduceLeDiff, Nat.reduceAdd, Nat.reduceSub, Nat.reduceMul, Nat.reduceEqDiff, Nat.reduceBEq, Nat.reduceBNe, reduceCtorEq, Int.reduceNeg, h1, h2, h3, hg']
      · have hg' : T = false := hbad (by simp [Ntc.good, h1, h2])
        simp only [↓RP, RQ, if_true, if_false, cond_true, cond_false, vcBin, bne, ne_eq, vcRet, resAll, resA, retOf, Int.reduceEq, Int.reduceNe, Int.reduceLT, Int.reduceLE, Int.reduceGT, Int.reduceGE, Int.reduceBEq, Int.reduceBNe, Nat.reduceLT, Nat.reduceLeDiff, Nat.reduceAdd, Nat.reduceSub, Nat.reduceMul, Nat.reduceEqDiff, Nat.reduceBEq, Nat.reduceBNe, reduceCtorEq, Int.reduceNeg, h1, h2, hg']
    · have hg' : T = false := hbad (by simp [Ntc.good, h1])
      simp only [↓RP, RQ, if_true, if_false, cond_true, cond_false, vcBin, bne, ne_eq, vcRet, resAll, resA, retOf, Int.reduceEq, Int.reduceNe, Int.reduceLT, Int.reduceLE, Int.reduceGT, Int.reduceGE, Int.reduceBEq, Int.reduceBNe, Nat.reduceLT, Nat.reduceLeDiff, Nat.reduceAdd, Nat.reduceSub, Nat.reduceMul, Nat.reduceEqDiff, Nat.reduceBEq, Nat.reduceBNe, reduceCtorEq, Int.reduceNeg, h1, hg']
  · have hge : i = xs.length := by simp at h'; omega
    subst hge
    rw [List.drop_length] at hg
    have hg' : T = true := by rw [hg]; simp [chk]
    simp only [↓RP, RQ, if_true, if_false, cond_true, cond_false, vcBin, bne, ne_eq, vcRet, resAll, resA, retOf, Int.reduceEq, Int.reduceNe, Int.reduceLT, Int.reduceLE, Int.reduceGT, Int.reduceGE, Int.reduceBEq, Int.reduceBNe, Nat.reduceLT, Nat.reduceLeDiff, Nat.reduceAdd, Nat.reduceSub, Nat.reduceMul, Nat.reduceEqDiff, Nat.reduceBEq, Nat.reduceBNe, reduceCtorEq, Int.reduceNeg, len_map, hg']
theorem lawFnExactIsDiary (N : Nat) {a0 : AV} (h0 : LeafOk (.sl [.str, .int .i64, .int .i64, .int .i64]) a0) : Runs Try.prog 3 [a0] (emp N) fun r H' => r = .v (.bool true) ∧ H' = emp N := by
  obtain ⟨xs, rfl, hm_xs, hw_xs⟩ := rows_of Ntc.of h0
  refine Runs.fin0 (Q := fun r H' => r = .v (.bool true)) ?_ (fun r H' h => by rw [h]; exact .same _ (.inl rfl)) (.v _)
  refine C3_fn ?_
  unfold C3
  simp only [↓RP, RQ, if_true, if_false, cond_true, cond_false, vcBin, bne, ne_eq, vcRet, resAll, resA, retOf, Int.reduceEq, Int.reduceNe, Int.reduceLT, Int.reduceLE, Int.reduceGT, Int.reduceGE, Int.reduceBEq, Int.reduceBNe, Nat.reduceLT, Nat.reduceLeDiff, Nat.reduceAdd, Nat.reduceSub, Nat.reduceMul, Nat.reduceEqDiff, Nat.reduceBEq, Nat.reduceBNe, reduceCtorEq, Int.reduceNeg, len_map]
  first | refine vcCall.same (s15 N xs _ hm_xs) ?_ | refine vcQCall.same (s15 N xs _ hm_xs) ?_
  simp only [↓RP, RQ, if_true, if_false, cond_true, cond_false, vcBin, bne, ne_eq, vcRet, resAll, resA, retOf, Int.reduceEq, Int.reduceNe, Int.reduceLT, Int.reduceLE, Int.reduceGT, Int.reduceGE, Int.reduceBEq, Int.reduceBNe, Nat.reduceLT, Nat.reduceLeDiff, Nat.reduceAdd, Nat.reduceSub, Nat.reduceMul, Nat.reduceEqDiff, Nat.reduceBEq, Nat.reduceBNe, reduceCtorEq, Int.reduceNeg, len_map]
  first | refine vcIf.dec (fun h_xs => ?_) (fun h_xs => ?_) | refine vcQIf.dec (fun h_xs => ?_) (fun h_xs => ?_)
  · simp only [↓RP, RQ, if_true, if_false, cond_true, cond_false, vcBin, bne, ne_eq, vcRet, resAll, resA, retOf, Int.reduceEq, Int.reduceNe, Int.reduceLT, Int.reduceLE, Int.reduceGT, Int.reduceGE, Int.reduceBEq, Int.reduceBNe, Nat.reduceLT, Nat.reduceLeDiff, Nat.reduceAdd, Nat.reduceSub, Nat.reduceMul, Nat.reduceEqDiff, Nat.reduceBEq, Nat.reduceBNe, reduceCtorEq, Int.reduceNeg, h_xs]
  · obtain ⟨hn_xs, hx_xs, hl_xs⟩ := szS_fit Ntc.fit hw_xs hm_xs (by decide) (by decide) (Int.not_lt.1 h_xs)
    simp only [↓RP, RQ, if_true, if_false, cond_true, cond_false, vcBin, bne, ne_eq, vcRet, resAll, resA, retOf, Int.reduceEq, Int.reduceNe, Int.reduceLT, Int.reduceLE, Int.reduceGT, Int.reduceGE, Int.reduceBEq, Int.reduceBNe, Nat.reduceLT, Nat.reduceLeDiff, Nat.reduceAdd, Nat.reduceSub, Nat.reduceMul, Nat.reduceEqDiff, Nat.reduceBEq, Nat.reduceBNe, reduceCtorEq, Int.reduceNeg, len_map, h_xs]
    first | refine vcCall.same (s17 N xs hn_xs) ?_ | refine vcQCall.same (s17 N xs hn_xs) ?_
    simp only [↓RP, RQ, if_true, if_false, cond_true, cond_false, vcBin, bne, ne_eq, vcRet, resAll, resA, retOf, Int.reduceEq, Int.reduceNe, Int.reduceLT, Int.reduceLE, Int.reduceGT, Int.reduceGE, Int.reduceBEq, Int.reduceBNe, Nat.reduceLT, Nat.reduceLeDiff, Nat.reduceAdd, Nat.reduceSub, Nat.reduceMul, Nat.reduceEqDiff, Nat.reduceBEq, Nat.reduceBNe, reduceCtorEq, Int.reduceNeg, len_map, h_xs]
    first | refine vcCall.same (s16 N xs hn_xs hx_xs) ?_ | refine vcQCall.same (s16 N xs hn_xs hx_xs) ?_
    simp only [↓RP, RQ, if_true, if_false, cond_true, cond_false, vcBin, bne, ne_eq, vcRet, resAll, resA, retOf, Int.reduceEq, Int.reduceNe, Int.reduceLT, Int.reduceLE, Int.reduceGT, Int.reduceGE, Int.reduceBEq, Int.reduceBNe, Nat.reduceLT, Nat.reduceLeDiff, Nat.reduceAdd, Nat.reduceSub, Nat.reduceMul, Nat.reduceEqDiff, Nat.reduceBEq, Nat.reduceBNe, reduceCtorEq, Int.reduceNeg, len_map, h_xs]
    first | refine vcCall.same (s17 N xs hn_xs) ?_ | refine vcQCall.same (s17 N xs hn_xs) ?_
    simp only [↓RP, RQ, if_true, if_false, cond_true, cond_false, vcBin, bne, ne_eq, vcRet, resAll, resA, retOf, Int.reduceEq, Int.reduceNe, Int.reduceLT, Int.reduceLE, Int.reduceGT, Int.reduceGE, Int.reduceBEq, Int.reduceBNe, Nat.reduceLT, Nat.reduceLeDiff, Nat.reduceAdd, Nat.reduceSub, Nat.reduceMul, Nat.reduceEqDiff, Nat.reduceBEq, Nat.reduceBNe, reduceCtorEq, Int.reduceNeg, len_map, h_xs]
    first | refine vcCall.same (s18 N xs hn_xs hx_xs) ?_ | refine vcQCall.same (s18 N xs hn_xs hx_xs) ?_
    simp only [↓RP, RQ, if_true, if_false, cond_true, cond_false, vcBin, bne, ne_eq, vcRet, resAll, resA, retOf, Int.reduceEq, Int.reduceNe, Int.reduceLT, Int.reduceLE, Int.reduceGT, Int.reduceGE, Int.reduceBEq, Int.reduceBNe, Nat.reduceLT, Nat.reduceLeDiff, Nat.reduceAdd, Nat.reduceSub, Nat.reduceMul, Nat.reduceEqDiff, Nat.reduceBEq, Nat.reduceBNe, reduceCtorEq, Int.reduceNeg, int_refl, str_refl, boo_refl, len_map, h_xs]
    first | refine vcCall.same (s17 N xs hn_xs) ?_ | refine vcQCall.same (s17 N xs hn_xs) ?_
    simp only [↓RP, RQ, if_true, if_false, cond_true, cond_false, vcBin, bne, ne_eq, vcRet, resAll, resA, retOf, Int.reduceEq, Int.reduceNe, Int.reduceLT, Int.reduceLE, Int.reduceGT, Int.reduceGE, Int.reduceBEq, Int.reduceBNe, Nat.reduceLT, Nat.reduceLeDiff, Nat.reduceAdd, Nat.reduceSub, Nat.reduceMul, Nat.reduceEqDiff, Nat.reduceBEq, Nat.reduceBNe, reduceCtorEq, Int.reduceNeg, len_map, h_xs]
    first | refine vcCall.same (s19 N xs hn_xs) ?_ | refine vcQCall.same (s19 N xs hn_xs) ?_
    simp only [↓RP, RQ, if_true, if_false, cond_true, cond_false, vcBin, bne, ne_eq, vcRet, resAll, resA, retOf, Int.reduceEq, Int.reduceNe, Int.reduceLT, Int.reduceLE, Int.reduceGT, Int.reduceGE, Int.reduceBEq, Int.reduceBNe, Nat.reduceLT, Nat.reduceLeDiff, Nat.reduceAdd, Nat.reduceSub, Nat.reduceMul, Nat.reduceEqDiff, Nat.reduceBEq, Nat.reduceBNe, reduceCtorEq, Int.reduceNeg, len_map, h_xs]
end Go.Proofs.Ytpaflfaokgapgaa
