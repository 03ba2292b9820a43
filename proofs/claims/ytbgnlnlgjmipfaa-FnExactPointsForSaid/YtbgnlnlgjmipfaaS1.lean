/- Contracts about securities. -/
import Derived.Test.YtbgnlnlgjmipfaaK0
import Derived.Test.YtbgnlnlgjmipfaaK1
import Derived.Test.YtbgnlnlgjmipfaaS0
import Derived.Test.YtbgnlnlgjmipfaaA20
set_option linter.unusedVariables false
set_option linter.unusedSimpArgs false
namespace Go.Proofs.Ytbgnlnlgjmipfaa
open Go.Abs
structure Sec where
  party : ByteArray
  kind : Int
  amount : Int
def Sec.row (s : Sec) : List AV := [.v (.string s.party), .v (.int .i64 s.kind), .v (.int .i64 s.amount)]
def Sec.sz (s : Sec) (l : Int) : Int := szStr s.party.size l fun l => l
def Sec.wf (s : Sec) : Prop := s.party.size ≤ maxLen ∧ (Lit.int .i64 s.kind).wf = true ∧ (Lit.int .i64 s.amount).wf = true
def Sec.ok (s : Sec) : Prop := s.party.size ≤ 1048576 ∧ (-9223372036854775808 ≤ s.kind ∧ s.kind < 9223372036854775808) ∧ (-9223372036854775808 ≤ s.amount ∧ s.amount < 9223372036854775808)
theorem Sec.of (r : List AV) (h : RowOk [.str, .int .i64, .int .i64] r) : ∃ x, r = Sec.row x ∧ x.wf := by
  obtain ⟨a0, r0, rfl, h0, k0⟩ := row_cons h
  obtain ⟨x0, rfl, w0⟩ := leaf_str h0
  obtain ⟨a1, r1, rfl, h1, k1⟩ := row_cons k0
  obtain ⟨x1, rfl, w1⟩ := leaf_int h1
  obtain ⟨a2, r2, rfl, h2, k2⟩ := row_cons k1
  obtain ⟨x2, rfl, w2⟩ := leaf_int h2
  obtain rfl := row_nil k2
  exact ⟨⟨x0, x1, x2⟩, rfl, w0, w1, w2⟩
theorem Sec.fit (s : Sec) (l : Int) (w : s.wf) (hl : 0 ≤ l) (hl' : l ≤ 1048576) (h : 0 ≤ s.sz l) : s.ok ∧ s.sz l ≤ l := by
  obtain ⟨w0, w1, w2⟩ := w
  unfold Sec.sz at h ⊢
  have e0 := szStr_fit w0 hl hl' h
  rw [e0.2.1] at h ⊢
  exact ⟨⟨e0.1, wf_i64 w1, wf_i64 w2⟩, by omega⟩
theorem Sec.nr (s : Sec) : ∀ a, a ∈ s.row → NoRef a := (norefs_cons (.v _) (norefs_cons (.v _) (norefs_cons (.v _) norefs_nil)))
theorem Sec.no (s : Sec) : ∀ a, a ∈ s.row → NoRo a := (noros_cons (.v _) (noros_cons (.v _) (noros_cons (.v _) noros_nil)))
theorem s80 (N : Nat) (s : Sec) (l : Int) : Runs Try.prog 80 [.agg s.row, .v (.int .i64 l)] (emp N) fun r H' => r = .v (.int .i64 (s.sz l)) ∧ H' = emp N := by
  refine Runs.fin0 (Q := fun r H' => r = .v (.int .i64 (s.sz l))) ?_ (fun r H' h => by rw [h]; exact .same _ (.inl rfl)) (.v _)
  refine C80_fn ?_
  unfold C80
  simp only [↓RP, RQ, if_true, if_false, cond_true, cond_false, vcBin, bne, ne_eq, vcRet, resAll, resA, retOf, Int.reduceEq, Int.reduceNe, Int.reduceLT, Int.reduceLE, Int.reduceGT, Int.reduceGE, Int.reduceBEq, Int.reduceBNe, Nat.reduceLT, Nat.reduceLeDiff, Nat.reduceAdd, Nat.reduceSub, Nat.reduceMul, Nat.reduceEqDiff, Nat.reduceBEq, Nat.reduceBNe, reduceCtorEq, Int.reduceNeg, Sec.row]
  refine vcIf.dec (fun h0 => ?_) (fun h0 => ?_)
  · simp only [↓RP, RQ, if_true, if_false, cond_true, cond_false, vcBin, bne, ne_eq, vcRet, resAll, resA, retOf, Int.reduceEq, Int.reduceNe, Int.reduceLT, Int.reduceLE, Int.reduceGT, Int.reduceGE, Int.reduceBEq, Int.reduceBNe, Nat.reduceLT, Nat.reduceLeDiff, Nat.reduceAdd, Nat.reduceSub, Nat.reduceMul, Nat.reduceEqDiff, Nat.reduceBEq, Nat.reduceBNe, reduceCtorEq, Int.reduceNeg, Sec.sz, szStr, h0]
  · simp only [↓RP, RQ, if_true, if_false, cond_true, cond_false, vcBin, bne, ne_eq, vcRet, resAll, resA, retOf, Int.reduceEq, Int.reduceNe, Int.reduceLT, Int.reduceLE, Int.reduceGT, Int.reduceGE, Int.reduceBEq, Int.reduceBNe, Nat.reduceLT, Nat.reduceLeDiff, Nat.reduceAdd, Nat.reduceSub, Nat.reduceMul, Nat.reduceEqDiff, Nat.reduceBEq, Nat.reduceBNe, reduceCtorEq, Int.reduceNeg, Sec.sz, szStr, h0]
theorem s82 (N : Nat) (s : Sec) : Runs Try.prog 82 [.agg s.row] (emp N) fun r H' => r = .agg s.row ∧ H' = emp N := by
  refine Runs.fin0 (Q := fun r H' => r = .agg s.row) ?_ (fun r H' h => by rw [h]; exact .same _ (.inl rfl)) (.agg _ s.nr)
  refine C82_fn ?_
  unfold C82
  simp only [↓RP, RQ, if_true, if_false, cond_true, cond_false, vcBin, bne, ne_eq, vcRet, resAll, resA, retOf, Int.reduceEq, Int.reduceNe, Int.reduceLT, Int.reduceLE, Int.reduceGT, Int.reduceGE, Int.reduceBEq, Int.reduceBNe, Nat.reduceLT, Nat.reduceLeDiff, Nat.reduceAdd, Nat.reduceSub, Nat.reduceMul, Nat.reduceEqDiff, Nat.reduceBEq, Nat.reduceBNe, reduceCtorEq, Int.reduceNeg, Sec.row]
theorem s84 (N : Nat) (s : Sec) : Runs Try.prog 84 [.agg s.row, .agg s.row] (emp N) fun r H' => r = .v (.bool true) ∧ H' = emp N := by
  refine Runs.fin0 (Q := fun r H' => r = .v (.bool true)) ?_ (fun r H' h => by rw [h]; exact .same _ (.inl rfl)) (.v _)
  refine C84_fn ?_
  unfold C84
  simp only [↓RP, RQ, if_true, if_false, cond_true, cond_false, vcBin, bne, ne_eq, vcRet, resAll, resA, retOf, Int.reduceEq, Int.reduceNe, Int.reduceLT, Int.reduceLE, Int.reduceGT, Int.reduceGE, Int.reduceBEq, Int.reduceBNe, Nat.reduceLT, Nat.reduceLeDiff, Nat.reduceAdd, Nat.reduceSub, Nat.reduceMul, Nat.reduceEqDiff, Nat.reduceBEq, Nat.reduceBNe, reduceCtorEq, Int.reduceNeg, Sec.row, str_refl, int_refl, boo_refl]
theorem s20 (N : Nat) (xs : List Sec) (l : Int) (hn : xs.length ≤ maxLen) : Runs Try.prog 20 [.ro 3 (xs.map Sec.row), .v (.int .i64 l)] (emp N) fun r H' => r = .v (.int .i64 (szS Sec.sz xs l)) ∧ H' = emp N := by
  refine C20_fn ?_
  unfold C20
  simp only [↓RP, RQ, if_true, if_false, cond_true, cond_false, vcBin, bne, ne_eq, vcRet, resAll, resA, retOf, Int.reduceEq, Int.reduceNe, Int.reduceLT, Int.reduceLE, Int.reduceGT, Int.reduceGE, Int.reduceBEq, Int.reduceBNe, Nat.reduceLT, Nat.reduceLeDiff, Nat.reduceAdd, Nat.reduceSub, Nat.reduceMul, Nat.reduceEqDiff, Nat.reduceBEq, Nat.reduceBNe, reduceCtorEq, Int.reduceNeg, len_map]
  refine vcIf.dec (fun h => ?_) (fun h => ?_)
  · simp only [↓RP, RQ, if_true, if_false, cond_true, cond_false, vcBin, bne, ne_eq, vcRet, resAll, resA, retOf, Int.reduceEq, Int.reduceNe, Int.reduceLT, Int.reduceLE, Int.reduceGT, Int.reduceGE, Int.reduceBEq, Int.reduceBNe, Nat.reduceLT, Nat.reduceLeDiff, Nat.reduceAdd, Nat.reduceSub, Nat.reduceMul, Nat.reduceEqDiff, Nat.reduceBEq, Nat.reduceBNe, reduceCtorEq, Int.reduceNeg, szS, h]
  · simp only [↓RP, RQ, if_true, if_false, cond_true, cond_false, vcBin, bne, ne_eq, vcRet, resAll, resA, retOf, Int.reduceEq, Int.reduceNe, Int.reduceLT, Int.reduceLE, Int.reduceGT, Int.reduceGE, Int.reduceBEq, Int.reduceBNe, Nat.reduceLT, Nat.reduceLeDiff, Nat.reduceAdd, Nat.reduceSub, Nat.reduceMul, Nat.reduceEqDiff, Nat.reduceBEq, Nat.reduceBNe, reduceCtorEq, Int.reduceNeg]
    have hs : szS Sec.sz xs l = szGo Sec.sz xs (IntKind.i64.wrap (l - xs.length)) := if_neg h
    generalize IntKind.i64.wrap (l - xs.length) = l0 at *
    refine vcLoop.st (σ := Nat × Int) (0, l0) (fun s => s.1 ≤ xs.length ∧ szGo Sec.sz (xs.drop s.1) s.2 = szGo Sec.sz xs l0) (fun s => xs.length - s.1) (fun _ => hl N [])
      (fun s => [.ro 3 (xs.map Sec.row), .v (.int .i64 s.2), .any, .any, .any, .v (.int .i64 s.1), .any, .any, .any, .any, .any, .any, .any, .any, .any, .any, .any, .any, .any, .any, .any, .any, .any, .any, .any, .any, .any]) ⟨Nat.zero_le _, rfl⟩ (Dr.refl _) (by simp only [↓RP, RQ, if_true, if_false, cond_true, cond_false, vcBin, bne, ne_eq, vcRet, resAll, resA, retOf, Int.reduceEq, Int.reduceNe, Int.reduceLT, Int.reduceLE, Int.reduceGT, Int.reduceGE, Int.reduceBEq, Int.reduceBNe, Nat.reduceLT, Nat.reduceLeDiff, Nat.reduceAdd, Nat.reduceSub, Nat.reduceMul, Nat.reduceEqDiff, Nat.reduceBEq, Nat.reduceBNe, reduceCtorEq, Int.reduceNeg]) ?_
    rintro ⟨i, lf⟩ ⟨hi, hg⟩
    simp only [↓RP, RQ, if_true, if_false, cond_true, cond_false, vcBin, bne, ne_eq, vcRet, resAll, resA, retOf, Int.reduceEq, Int.reduceNe, Int.reduceLT, Int.reduceLE, Int.reduceGT, Int.reduceGE, Int.reduceBEq, Int.reduceBNe, Nat.reduceLT, Nat.reduceLeDiff, Nat.reduceAdd, Nat.reduceSub, Nat.reduceMul, Nat.reduceEqDiff, Nat.reduceBEq, Nat.reduceBNe, reduceCtorEq, Int.reduceNeg, len_map]
    refine vcIf.dec (fun h' => ?_) (fun h' => ?_)
    · have hlt : i < xs.length := by simpa using h'
      obtain ⟨x, hx0, hx, hd⟩ := at_i Sec.row xs hlt
      rw [hd] at hg
      simp only [↓RP, RQ, if_true, if_false, cond_true, cond_false, vcBin, bne, ne_eq, vcRet, resAll, resA, retOf, Int.reduceEq, Int.reduceNe, Int.reduceLT, Int.reduceLE, Int.reduceGT, Int.reduceGE, Int.reduceBEq, Int.reduceBNe, Nat.reduceLT, Nat.reduceLeDiff, Nat.reduceAdd, Nat.reduceSub, Nat.reduceMul, Nat.reduceEqDiff, Nat.reduceBEq, Nat.reduceBNe, reduceCtorEq, Int.reduceNeg, len_map, nn, tn, lt_cast hlt, hx, Sec.row]
      refine vcCall.same (s80 N x _) ?_
      simp only [↓RP, RQ, if_true, if_false, cond_true, cond_false, vcBin, bne, ne_eq, vcRet, resAll, resA, retOf, Int.reduceEq, Int.reduceNe, Int.reduceLT, Int.reduceLE, Int.reduceGT, Int.reduceGE, Int.reduceBEq, Int.reduceBNe, Nat.reduceLT, Nat.reduceLeDiff, Nat.reduceAdd, Nat.reduceSub, Nat.reduceMul, Nat.reduceEqDiff, Nat.reduceBEq, Nat.reduceBNe, reduceCtorEq, Int.reduceNeg]
      refine vcIf.dec (fun h3 => ?_) (fun h3 => ?_)
      · simp only [↓RP, RQ, if_true, if_false, cond_true, cond_false, vcBin, bne, ne_eq, vcRet, resAll, resA, retOf, Int.reduceEq, Int.reduceNe, Int.reduceLT, Int.reduceLE, Int.reduceGT, Int.reduceGE, Int.reduceBEq, Int.reduceBNe, Nat.reduceLT, Nat.reduceLeDiff, Nat.reduceAdd, Nat.reduceSub, Nat.reduceMul, Nat.reduceEqDiff, Nat.reduceBEq, Nat.reduceBNe, reduceCtorEq, Int.reduceNeg]
        rw [hs, ← hg, szGo, if_pos h3]
      · simp only [↓RP, RQ, if_true, if_false, cond_true, cond_false, vcBin, bne, ne_eq, vcRet, resAll, resA, retOf, Int.reduceEq, Int.reduceNe, Int.reduceLT, Int.reduceLE, Int.reduceGT, Int.reduceGE, Int.reduceBEq, Int.reduceBNe, Nat.reduceLT, Nat.reduceLeDiff, Nat.reduceAdd, Nat.reduceSub, Nat.reduceMul, Nat.reduceEqDiff, Nat.reduceBEq, Nat.reduceBNe, reduceCtorEq, Int.reduceNeg, w_succ hlt hn]
        refine ⟨(i + 1, x.sz lf), by show xs.length - (i + 1) < xs.length - i; omega, ⟨hlt, ?_⟩, by simp only [↓RP, RQ, if_true, if_false, cond_true, cond_false, vcBin, bne, ne_eq, vcRet, resAll, resA, retOf, Int.reduceEq, Int.reduceNe, Int.reduceLT, Int.reduceLE, Int.reduceGT, Int.reduceGE, Int.reduceBEq, Int.reduceBNe, Nat.reduceLT, Nat.reduceLeDiff, Nat.reduceAdd, Nat.reduceSub, Nat.reduceMul, Nat.reduceEqDiff, Nat.reduceBEq, Nat.reduceBNe, reduceCtorEq, Int.reduceNeg]⟩
        rw [szGo, if_neg h3] at hg
        exact hg
    · have hge : i = xs.length := by simp at h'; omega
      subst hge
      simp only [↓RP, RQ, if_true, if_false, cond_true, cond_false, vcBin, bne, ne_eq, vcRet, resAll, resA, retOf, Int.reduceEq, Int.reduceNe, Int.reduceLT, Int.reduceLE, Int.reduceGT, Int.reduceGE, Int.reduceBEq, Int.reduceBNe, Nat.reduceLT, Nat.reduceLeDiff, Nat.reduceAdd, Nat.reduceSub, Nat.reduceMul, Nat.reduceEqDiff, Nat.reduceBEq, Nat.reduceBNe, reduceCtorEq, Int.reduceNeg]
      rw [hs, ← hg, List.drop_length]
      rfl
theorem q22 (N : Nat) (xs : List Sec) (hn : xs.length ≤ 1048576) : Runs Try.prog 22 [.ro 3 (xs.map Sec.row)] (emp N) (Got1 3 (xs.map Sec.row)) := by
  refine Runs.mono (Q := fun r H' => r = .own N xs.length ∧ H'.m N = some ⟨3, xs.map Sec.row⟩) ?_ (fun r H' h => ⟨N, by rw [h.1, len_map], h.2⟩)
  refine C22_fn ?_
  unfold C22
  simp only [↓RP, RQ, if_true, if_false, cond_true, cond_false, vcBin, bne, ne_eq, vcRet, resAll, resA, retOf, Int.reduceEq, Int.reduceNe, Int.reduceLT, Int.reduceLE, Int.reduceGT, Int.reduceGE, Int.reduceBEq, Int.reduceBNe, Nat.reduceLT, Nat.reduceLeDiff, Nat.reduceAdd, Nat.reduceSub, Nat.reduceMul, Nat.reduceEqDiff, Nat.reduceBEq, Nat.reduceBNe, reduceCtorEq, Int.reduceNeg, len_map, nn, tn]
  refine ⟨by omega, ?_⟩
  have hm : xs.length ≤ maxLen := by have : maxLen = 9223372036854775807 := rfl; omega
  refine vcLoop.st (σ := Nat) 0 (fun i => i ≤ xs.length) (fun i => xs.length - i) (fun i => hl (N + 1) [(N, some ⟨3, fillR Sec.row xs [.v (.string ⟨#[]⟩), .v (.int .i64 0), .v (.int .i64 0)] i⟩)])
    (fun i => [.ro 3 (xs.map Sec.row), .any, .any, .own N xs.length, .v (.int .i64 i), .any, .any, .any, .any, .any, .any, .any, .any, .any, .any, .any, .any, .any, .any, .any, .any, .any, .any]) (Nat.zero_le _) (Dr.refl _) (by simp only [↓RP, RQ, if_true, if_false, cond_true, cond_false, vcBin, bne, ne_eq, vcRet, resAll, resA, retOf, Int.reduceEq, Int.reduceNe, Int.reduceLT, Int.reduceLE, Int.reduceGT, Int.reduceGE, Int.reduceBEq, Int.reduceBNe, Nat.reduceLT, Nat.reduceLeDiff, Nat.reduceAdd, Nat.reduceSub, Nat.reduceMul, Nat.reduceEqDiff, Nat.reduceBEq, Nat.reduceBNe, reduceCtorEq, Int.reduceNeg]) ?_
  intro i hi
  simp only [↓RP, RQ, if_true, if_false, cond_true, cond_false, vcBin, bne, ne_eq, vcRet, resAll, resA, retOf, Int.reduceEq, Int.reduceNe, Int.reduceLT, Int.reduceLE, Int.reduceGT, Int.reduceGE, Int.reduceBEq, Int.reduceBNe, Nat.reduceLT, Nat.reduceLeDiff, Nat.reduceAdd, Nat.reduceSub, Nat.reduceMul, Nat.reduceEqDiff, Nat.reduceBEq, Nat.reduceBNe, reduceCtorEq, Int.reduceNeg, len_map]
  refine vcIf.dec (fun h' => ?_) (fun h' => ?_)
  · have hlt : i < xs.length := by simpa using h'
    obtain ⟨x, hx0, hx, hd⟩ := at_i Sec.row xs hlt
    simp only [↓RP, RQ, if_true, if_false, cond_true, cond_false, vcBin, bne, ne_eq, vcRet, resAll, resA, retOf, Int.reduceEq, Int.reduceNe, Int.reduceLT, Int.reduceLE, Int.reduceGT, Int.reduceGE, Int.reduceBEq, Int.reduceBNe, Nat.reduceLT, Nat.reduceLeDiff, Nat.reduceAdd, Nat.reduceSub, Nat.reduceMul, Nat.reduceEqDiff, Nat.reduceBEq, Nat.reduceBNe, reduceCtorEq, Int.reduceNeg, len_map, nn, tn, lt_cast hlt, hx, Sec.row]
    refine vcCall.same (Runs.pure (s82 (N + 1) x) (Fzl.same _) (.agg _ x.no)) ?_
    simp only [↓RP, RQ, if_true, if_false, cond_true, cond_false, vcBin, bne, ne_eq, vcRet, resAll, resA, retOf, Int.reduceEq, Int.reduceNe, Int.reduceLT, Int.reduceLE, Int.reduceGT, Int.reduceGE, Int.reduceBEq, Int.reduceBNe, Nat.reduceLT, Nat.reduceLeDiff, Nat.reduceAdd, Nat.reduceSub, Nat.reduceMul, Nat.reduceEqDiff, Nat.reduceBEq, Nat.reduceBNe, reduceCtorEq, Int.reduceNeg, len_map, nn, tn, lt_cast hlt, fillR_len Sec.row xs [.v (.string ⟨#[]⟩), .v (.int .i64 0), .v (.int .i64 0)] hi, hlt, fillR_at Sec.row xs [.v (.string ⟨#[]⟩), .v (.int .i64 0), .v (.int .i64 0)] hlt, Sec.row]
    simp only [↓RP, RQ, if_true, if_false, cond_true, cond_false, vcBin, bne, ne_eq, vcRet, resAll, resA, retOf, Int.reduceEq, Int.reduceNe, Int.reduceLT, Int.reduceLE, Int.reduceGT, Int.reduceGE, Int.reduceBEq, Int.reduceBNe, Nat.reduceLT, Nat.reduceLeDiff, Nat.reduceAdd, Nat.reduceSub, Nat.reduceMul, Nat.reduceEqDiff, Nat.reduceBEq, Nat.reduceBNe, reduceCtorEq, Int.reduceNeg, w_succ hlt hm]
    exact ⟨i + 1, by omega, hlt, by simp only [↓RP, RQ, if_true, if_false, cond_true, cond_false, vcBin, bne, ne_eq, vcRet, resAll, resA, retOf, Int.reduceEq, Int.reduceNe, Int.reduceLT, Int.reduceLE, Int.reduceGT, Int.reduceGE, Int.reduceBEq, Int.reduceBNe, Nat.reduceLT, Nat.reduceLeDiff, Nat.reduceAdd, Nat.reduceSub, Nat.reduceMul, Nat.reduceEqDiff, Nat.reduceBEq, Nat.reduceBNe, reduceCtorEq, Int.reduceNeg, ← fillR_set Sec.row xs [.v (.string ⟨#[]⟩), .v (.int .i64 0), .v (.int .i64 0)] hlt hx0, Sec.row], by simp only [↓RP, RQ, if_true, if_false, cond_true, cond_false, vcBin, bne, ne_eq, vcRet, resAll, resA, retOf, Int.reduceEq, Int.reduceNe, Int.reduceLT, Int.reduceLE, Int.reduceGT, Int.reduceGE, Int.reduceBEq, Int.reduceBNe, Nat.reduceLT, Nat.reduceLeDiff, Nat.reduceAdd, Nat.reduceSub, Nat.reduceMul, Nat.reduceEqDiff, Nat.reduceBEq, Nat.reduceBNe, reduceCtorEq, Int.reduceNeg]⟩
  · have hge : i = xs.length := by simp at h'; omega
    subst hge
    simp only [↓RP, RQ, if_true, if_false, cond_true, cond_false, vcBin, bne, ne_eq, vcRet, resAll, resA, retOf, Int.reduceEq, Int.reduceNe, Int.reduceLT, Int.reduceLE, Int.reduceGT, Int.reduceGE, Int.reduceBEq, Int.reduceBNe, Nat.reduceLT, Nat.reduceLeDiff, Nat.reduceAdd, Nat.reduceSub, Nat.reduceMul, Nat.reduceEqDiff, Nat.reduceBEq, Nat.reduceBNe, reduceCtorEq, Int.reduceNeg, fillR_end]
theorem s22 (N : Nat) (xs : List Sec) (hn : xs.length ≤ 1048576) : Runs Try.prog 22 [.ro 3 (xs.map Sec.row)] (emp N) fun r H' => r = .ro 3 (xs.map Sec.row) ∧ H' = emp N := Got1.ro (q22 N xs hn) (norefs_map Sec.nr xs)
theorem o22 (H : Heap) (xs : List Sec) (hn : xs.length ≤ 1048576) : Runs Try.prog 22 [.ro 3 (xs.map Sec.row)] H fun r H' => r = .own H.nx xs.length ∧ H' = H.alloc ⟨3, xs.map Sec.row⟩ := by
  have h := Got1.at (q22 H.nx xs hn) (Fzl.same _) (norefs_map Sec.nr xs) (noros_map Sec.no xs)
  rw [len_map] at h; exact h
theorem s25 (N : Nat) (xs : List Sec) (hn : xs.length ≤ 1048576) : Runs Try.prog 25 [.ro 3 (xs.map Sec.row), .ro 3 (xs.map Sec.row)] (emp N) fun r H' => r = .v (.bool true) ∧ H' = emp N := by
  have hm : xs.length ≤ maxLen := by have : maxLen = 9223372036854775807 := rfl; omega
  refine C25_fn ?_
  unfold C25
  simp only [↓RP, RQ, if_true, if_false, cond_true, cond_false, vcBin, bne, ne_eq, vcRet, resAll, resA, retOf, Int.reduceEq, Int.reduceNe, Int.reduceLT, Int.reduceLE, Int.reduceGT, Int.reduceGE, Int.reduceBEq, Int.reduceBNe, Nat.reduceLT, Nat.reduceLeDiff, Nat.reduceAdd, Nat.reduceSub, Nat.reduceMul, Nat.reduceEqDiff, Nat.reduceBEq, Nat.reduceBNe, reduceCtorEq, Int.reduceNeg, len_map, int_refl]
  refine vcLoop.st (σ := Nat) 0 (fun i => i ≤ xs.length) (fun i => xs.length - i) (fun i => hl N [])
    (fun i => [.ro 3 (xs.map Sec.row), .ro 3 (xs.map Sec.row), .any, .any, .any, .v (.int .i64 i), .any, .any, .any, .any, .any, .any, .any, .any, .any, .any, .any, .any, .any, .any, .any, .any, .any, .any, .any, .any, .any]) (Nat.zero_le _) (Dr.refl _) (by simp only [↓RP, RQ, if_true, if_false, cond_true, cond_false, vcBin, bne, ne_eq, vcRet, resAll, resA, retOf, Int.reduceEq, Int.reduceNe, Int.reduceLT, Int.reduceLE, Int.reduceGT, Int.reduceGE, Int.reduceBEq, Int.reduceBNe, Nat.reduceLT, Nat.reduceLeDiff, Nat.reduceAdd, Nat.reduceSub, Nat.reduceMul, Nat.reduceEqDiff, Nat.reduceBEq, Nat.reduceBNe, reduceCtorEq, Int.reduceNeg]) ?_
  intro i hi
  simp only [↓RP, RQ, if_true, if_false, cond_true, cond_false, vcBin, bne, ne_eq, vcRet, resAll, resA, retOf, Int.reduceEq, Int.reduceNe, Int.reduceLT, Int.reduceLE, Int.reduceGT, Int.reduceGE, Int.reduceBEq, Int.reduceBNe, Nat.reduceLT, Nat.reduceLeDiff, Nat.reduceAdd, Nat.reduceSub, Nat.reduceMul, Nat.reduceEqDiff, Nat.reduceBEq, Nat.reduceBNe, reduceCtorEq, Int.reduceNeg, len_map]
  refine vcIf.dec (fun h' => ?_) (fun h' => ?_)
  · have hlt : i < xs.length := by simpa using h'
    obtain ⟨x, hx0, hx, hd⟩ := at_i Sec.row xs hlt
    simp only [↓RP, RQ, if_true, if_false, cond_true, cond_false, vcBin, bne, ne_eq, vcRet, resAll, resA, retOf, Int.reduceEq, Int.reduceNe, Int.reduceLT, Int.reduceLE, Int.reduceGT, Int.reduceGE, Int.reduceBEq, Int.reduceBNe, Nat.reduceLT, Nat.reduceLeDiff, Nat.reduceAdd, Nat.reduceSub, Nat.reduceMul, Nat.reduceEqDiff, Nat.reduceBEq, Nat.reduceBNe, reduceCtorEq, Int.reduceNeg, len_map, nn, tn, lt_cast hlt, hx, Sec.row]
    refine vcQCall.same (s84 N x) ?_
    simp only [↓RP, RQ, if_true, if_false, cond_true, cond_false, vcBin, bne, ne_eq, vcRet, resAll, resA, retOf, Int.reduceEq, Int.reduceNe, Int.reduceLT, Int.reduceLE, Int.reduceGT, Int.reduceGE, Int.reduceBEq, Int.reduceBNe, Nat.reduceLT, Nat.reduceLeDiff, Nat.reduceAdd, Nat.reduceSub, Nat.reduceMul, Nat.reduceEqDiff, Nat.reduceBEq, Nat.reduceBNe, reduceCtorEq, Int.reduceNeg, w_succ hlt hm]
    exact ⟨i + 1, by omega, hlt, by simp only [↓RP, RQ, if_true, if_false, cond_true, cond_false, vcBin, bne, ne_eq, vcRet, resAll, resA, retOf, Int.reduceEq, Int.reduceNe, Int.reduceLT, Int.reduceLE, Int.reduceGT, Int.reduceGE, Int.reduceBEq, Int.reduceBNe, Nat.reduceLT, Nat.reduceLeDiff, Nat.reduceAdd, Nat.reduceSub, Nat.reduceMul, Nat.reduceEqDiff, Nat.reduceBEq, Nat.reduceBNe, reduceCtorEq, Int.reduceNeg]⟩
  · simp only [↓RP, RQ, if_true, if_false, cond_true, cond_false, vcBin, bne, ne_eq, vcRet, resAll, resA, retOf, Int.reduceEq, Int.reduceNe, Int.reduceLT, Int.reduceLE, Int.reduceGT, Int.reduceGE, Int.reduceBEq, Int.reduceBNe, Nat.reduceLT, Nat.reduceLeDiff, Nat.reduceAdd, Nat.reduceSub, Nat.reduceMul, Nat.reduceEqDiff, Nat.reduceBEq, Nat.reduceBNe, reduceCtorEq, Int.reduceNeg]
end Go.Proofs.Ytbgnlnlgjmipfaa
