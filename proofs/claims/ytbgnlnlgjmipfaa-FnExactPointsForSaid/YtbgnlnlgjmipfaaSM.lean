/- Contracts of the marks that are written into slices, and of lists of numbers and of texts. -/
import Derived.Test.YtbgnlnlgjmipfaaK1
import Derived.Test.YtbgnlnlgjmipfaaK2
import Derived.Test.YtbgnlnlgjmipfaaS1
set_option linter.unusedVariables false
set_option linter.unusedSimpArgs false
namespace Go.Proofs.Ytbgnlnlgjmipfaa
open Go.Abs
theorem s85 (N k : Nat) (h0 : 0 < k) (hk : k ≤ 200000000) : Runs Try.prog 85 [.v (.int .i64 (k : Nat))] (emp N) fun r H' => r = .v (.string (mtx k)) ∧ H' = emp N := by
  refine Runs.fin0 (Q := fun r H' => r = .v (.string (mtx k))) ?_ (fun r H' h => by rw [h]; exact .same _ (.inl rfl)) (.v _)
  refine C85_fn ?_
  unfold C85
  have h1 : decide ((k : Int) ≤ 0) = false := by simp; omega
  simp only [↓RP, RQ, if_true, if_false, cond_true, cond_false, vcBin, bne, ne_eq, vcRet, resAll, resA, retOf, Int.reduceEq, Int.reduceNe, Int.reduceLT, Int.reduceLE, Int.reduceGT, Int.reduceGE, Int.reduceBEq, Int.reduceBNe, Nat.reduceLT, Nat.reduceLeDiff, Nat.reduceAdd, Nat.reduceSub, Nat.reduceMul, Nat.reduceEqDiff, Nat.reduceBEq, Nat.reduceBNe, reduceCtorEq, Int.reduceNeg, h1]
  refine vcLoop.st (σ := Nat × Nat × ByteArray) (N, k, ⟨#[]⟩) (fun s => s.2.2.size + s.2.1 ≤ 200000000 ∧ digs k ⟨#[]⟩ = digs s.2.1 s.2.2) (fun s => s.2.1) (fun s => hl s.1 []) (fun s => [.v (.int .i64 (s.2.1 : Nat)), .any, .any, .v (.string s.2.2), .any, .any, .any, .any, .any, .any, .any, .any, .any, .any, .any, .any, .any, .any, .any, .any]) ⟨by show 0 + k ≤ _; omega, rfl⟩ (Dr.refl _) (by simp only [↓RP, RQ, if_true, if_false, cond_true, cond_false, vcBin, bne, ne_eq, vcRet, resAll, resA, retOf, Int.reduceEq, Int.reduceNe, Int.reduceLT, Int.reduceLE, Int.reduceGT, Int.reduceGE, Int.reduceBEq, Int.reduceBNe, Nat.reduceLT, Nat.reduceLeDiff, Nat.reduceAdd, Nat.reduceSub, Nat.reduceMul, Nat.reduceEqDiff, Nat.reduceBEq, Nat.reduceBNe, reduceCtorEq, Int.reduceNeg]) ?_
  rintro ⟨M, j, out⟩ ⟨hj, hg⟩
  replace hj : out.size + j ≤ 200000000 := hj
  simp only [↓RP, RQ, if_true, if_false, cond_true, cond_false, vcBin, bne, ne_eq, vcRet, resAll, resA, retOf, Int.reduceEq, Int.reduceNe, Int.reduceLT, Int.reduceLE, Int.reduceGT, Int.reduceGE, Int.reduceBEq, Int.reduceBNe, Nat.reduceLT, Nat.reduceLeDiff, Nat.reduceAdd, Nat.reduceSub, Nat.reduceMul, Nat.reduceEqDiff, Nat.reduceBEq, Nat.reduceBNe, reduceCtorEq, Int.reduceNeg]
  first | refine vcIf.dec (fun h2 => ?_) (fun h2 => ?_) | refine vcQIf.dec (fun h2 => ?_) (fun h2 => ?_)
  · have hj0 : 0 < j := by simpa using h2
    have e1 : Int.tmod (j : Int) 10 = ((j % 10 : Nat) : Int) := by rw [Int.tmod_eq_emod_of_nonneg (by omega)]; omega
    have e2 : IntKind.i64.wrap (48 + ((j % 10 : Nat) : Int)) = ((48 + j % 10 : Nat) : Int) := by rw [w64 (by omega) (by omega)]; omega
    have e3 : IntKind.u8.wrap ((48 + j % 10 : Nat) : Int) = ((48 + j % 10 : Nat) : Int) := by simp only [IntKind.wrap, IntKind.bits, IntKind.signed]; simp; omega
    have e4 : IntKind.i64.wrap (Int.tdiv (j : Int) 10) = ((j / 10 : Nat) : Int) := by rw [Int.tdiv_eq_ediv_of_nonneg (by omega), w64 (by omega) (by omega)]; omega
    have e5 : (1 + out.size ≤ 9223372036854775807) = True := by simp; omega
    have e6 : ((10 : Int) = 0) = False := by simp
    simp only [↓RP, RQ, if_true, if_false, cond_true, cond_false, vcBin, bne, ne_eq, vcRet, resAll, resA, retOf, Int.reduceEq, Int.reduceNe, Int.reduceLT, Int.reduceLE, Int.reduceGT, Int.reduceGE, Int.reduceBEq, Int.reduceBNe, Nat.reduceLT, Nat.reduceLeDiff, Nat.reduceAdd, Nat.reduceSub, Nat.reduceMul, Nat.reduceEqDiff, Nat.reduceBEq, Nat.reduceBNe, reduceCtorEq, Int.reduceNeg, h2, e1, e2, e3, e4, e5, e6, bytesOf, str_one, true_le]
    refine ⟨(M + 1, j / 10, strOfNums [((48 + j % 10 : Nat) : Int)] ++ out), by show j / 10 < j; omega, ⟨?_, ?_⟩, by simp only [↓RP, RQ, if_true, if_false, cond_true, cond_false, vcBin, bne, ne_eq, vcRet, resAll, resA, retOf, Int.reduceEq, Int.reduceNe, Int.reduceLT, Int.reduceLE, Int.reduceGT, Int.reduceGE, Int.reduceBEq, Int.reduceBNe, Nat.reduceLT, Nat.reduceLeDiff, Nat.reduceAdd, Nat.reduceSub, Nat.reduceMul, Nat.reduceEqDiff, Nat.reduceBEq, Nat.reduceBNe, reduceCtorEq, Int.reduceNeg], by simp only [↓RP, RQ, if_true, if_false, cond_true, cond_false, vcBin, bne, ne_eq, vcRet, resAll, resA, retOf, Int.reduceEq, Int.reduceNe, Int.reduceLT, Int.reduceLE, Int.reduceGT, Int.reduceGE, Int.reduceBEq, Int.reduceBNe, Nat.reduceLT, Nat.reduceLeDiff, Nat.reduceAdd, Nat.reduceSub, Nat.reduceMul, Nat.reduceEqDiff, Nat.reduceBEq, Nat.reduceBNe, reduceCtorEq, Int.reduceNeg]⟩
    · show (strOfNums [((48 + j % 10 : Nat) : Int)] ++ out).size + j / 10 ≤ 200000000
      rw [ByteArray.size_append, str_one]; omega
    · rw [hg]
      show digs j out = _
      rw [digs, dif_neg (by omega)]
  · have hj0 : j = 0 := by simp at h2; omega
    subst hj0
    replace hg : digs k ⟨#[]⟩ = digs 0 out := hg
    have hz : digs 0 out = out := by rw [digs, dif_pos rfl]
    rw [hz] at hg
    have e5 : ((⟨#[109]⟩ : ByteArray).size + out.size ≤ 9223372036854775807) = True := by simp only [eq_iff_iff, iff_true]; show 1 + out.size ≤ _; omega
    simp only [↓RP, RQ, if_true, if_false, cond_true, cond_false, vcBin, bne, ne_eq, vcRet, resAll, resA, retOf, Int.reduceEq, Int.reduceNe, Int.reduceLT, Int.reduceLE, Int.reduceGT, Int.reduceGE, Int.reduceBEq, Int.reduceBNe, Nat.reduceLT, Nat.reduceLeDiff, Nat.reduceAdd, Nat.reduceSub, Nat.reduceMul, Nat.reduceEqDiff, Nat.reduceBEq, Nat.reduceBNe, reduceCtorEq, Int.reduceNeg, h2, e5, mtx, hg]
theorem q30 (N : Nat) (xs : List Int) (hn : xs.length ≤ 1048576) : Runs Try.prog 30 [.ro 1 (xs.map int1)] (emp N) (Got1 1 (xs.map int1)) := by
  refine Runs.mono (Q := fun r H' => r = .own N xs.length ∧ H'.m N = some ⟨1, xs.map int1⟩) ?_ (fun r H' h => ⟨N, by rw [h.1, len_map], h.2⟩)
  refine C30_fn ?_
  unfold C30
  simp only [↓RP, RQ, if_true, if_false, cond_true, cond_false, vcBin, bne, ne_eq, vcRet, resAll, resA, retOf, Int.reduceEq, Int.reduceNe, Int.reduceLT, Int.reduceLE, Int.reduceGT, Int.reduceGE, Int.reduceBEq, Int.reduceBNe, Nat.reduceLT, Nat.reduceLeDiff, Nat.reduceAdd, Nat.reduceSub, Nat.reduceMul, Nat.reduceEqDiff, Nat.reduceBEq, Nat.reduceBNe, reduceCtorEq, Int.reduceNeg, len_map, nn, tn]
  refine ⟨by omega, ?_⟩
  have hm : xs.length ≤ maxLen := by have : maxLen = 9223372036854775807 := rfl; omega
  refine vcLoop.st (σ := Nat) 0 (fun i => i ≤ xs.length) (fun i => xs.length - i) (fun i => hl (N + 1) [(N, some ⟨1, fillR int1 xs [.v (.int .i64 0)] i⟩)])
    (fun i => [.ro 1 (xs.map int1), .any, .any, .own N xs.length, .v (.int .i64 i), .any, .any, .any, .any, .any, .any, .any, .any, .any, .any, .any, .any, .any, .any, .any, .any, .any]) (Nat.zero_le _) (Dr.refl _) (by simp only [↓RP, RQ, if_true, if_false, cond_true, cond_false, vcBin, bne, ne_eq, vcRet, resAll, resA, retOf, Int.reduceEq, Int.reduceNe, Int.reduceLT, Int.reduceLE, Int.reduceGT, Int.reduceGE, Int.reduceBEq, Int.reduceBNe, Nat.reduceLT, Nat.reduceLeDiff, Nat.reduceAdd, Nat.reduceSub, Nat.reduceMul, Nat.reduceEqDiff, Nat.reduceBEq, Nat.reduceBNe, reduceCtorEq, Int.reduceNeg]) ?_
  intro i hi
  simp only [↓RP, RQ, if_true, if_false, cond_true, cond_false, vcBin, bne, ne_eq, vcRet, resAll, resA, retOf, Int.reduceEq, Int.reduceNe, Int.reduceLT, Int.reduceLE, Int.reduceGT, Int.reduceGE, Int.reduceBEq, Int.reduceBNe, Nat.reduceLT, Nat.reduceLeDiff, Nat.reduceAdd, Nat.reduceSub, Nat.reduceMul, Nat.reduceEqDiff, Nat.reduceBEq, Nat.reduceBNe, reduceCtorEq, Int.reduceNeg, len_map]
  refine vcIf.dec (fun h' => ?_) (fun h' => ?_)
  · have hlt : i < xs.length := by simpa using h'
    obtain ⟨x, hx0, hx, hd⟩ := at_i int1 xs hlt
    simp only [↓RP, RQ, if_true, if_false, cond_true, cond_false, vcBin, bne, ne_eq, vcRet, resAll, resA, retOf, Int.reduceEq, Int.reduceNe, Int.reduceLT, Int.reduceLE, Int.reduceGT, Int.reduceGE, Int.reduceBEq, Int.reduceBNe, Nat.reduceLT, Nat.reduceLeDiff, Nat.reduceAdd, Nat.reduceSub, Nat.reduceMul, Nat.reduceEqDiff, Nat.reduceBEq, Nat.reduceBNe, reduceCtorEq, Int.reduceNeg, len_map, nn, tn, lt_cast hlt, hx, fillR_len int1 xs [.v (.int .i64 0)] hi, hlt, fillR_at int1 xs [.v (.int .i64 0)] hlt, int1]
    simp only [↓RP, RQ, if_true, if_false, cond_true, cond_false, vcBin, bne, ne_eq, vcRet, resAll, resA, retOf, Int.reduceEq, Int.reduceNe, Int.reduceLT, Int.reduceLE, Int.reduceGT, Int.reduceGE, Int.reduceBEq, Int.reduceBNe, Nat.reduceLT, Nat.reduceLeDiff, Nat.reduceAdd, Nat.reduceSub, Nat.reduceMul, Nat.reduceEqDiff, Nat.reduceBEq, Nat.reduceBNe, reduceCtorEq, Int.reduceNeg, w_succ hlt hm]
    exact ⟨i + 1, by omega, hlt, by simp only [↓RP, RQ, if_true, if_false, cond_true, cond_false, vcBin, bne, ne_eq, vcRet, resAll, resA, retOf, Int.reduceEq, Int.reduceNe, Int.reduceLT, Int.reduceLE, Int.reduceGT, Int.reduceGE, Int.reduceBEq, Int.reduceBNe, Nat.reduceLT, Nat.reduceLeDiff, Nat.reduceAdd, Nat.reduceSub, Nat.reduceMul, Nat.reduceEqDiff, Nat.reduceBEq, Nat.reduceBNe, reduceCtorEq, Int.reduceNeg, ← fillR_set int1 xs [.v (.int .i64 0)] hlt hx0, int1], by simp only [↓RP, RQ, if_true, if_false, cond_true, cond_false, vcBin, bne, ne_eq, vcRet, resAll, resA, retOf, Int.reduceEq, Int.reduceNe, Int.reduceLT, Int.reduceLE, Int.reduceGT, Int.reduceGE, Int.reduceBEq, Int.reduceBNe, Nat.reduceLT, Nat.reduceLeDiff, Nat.reduceAdd, Nat.reduceSub, Nat.reduceMul, Nat.reduceEqDiff, Nat.reduceBEq, Nat.reduceBNe, reduceCtorEq, Int.reduceNeg]⟩
  · have hge : i = xs.length := by simp at h'; omega
    subst hge
    simp only [↓RP, RQ, if_true, if_false, cond_true, cond_false, vcBin, bne, ne_eq, vcRet, resAll, resA, retOf, Int.reduceEq, Int.reduceNe, Int.reduceLT, Int.reduceLE, Int.reduceGT, Int.reduceGE, Int.reduceBEq, Int.reduceBNe, Nat.reduceLT, Nat.reduceLeDiff, Nat.reduceAdd, Nat.reduceSub, Nat.reduceMul, Nat.reduceEqDiff, Nat.reduceBEq, Nat.reduceBNe, reduceCtorEq, Int.reduceNeg, fillR_end]
theorem s30 (N : Nat) (xs : List Int) (hn : xs.length ≤ 1048576) : Runs Try.prog 30 [.ro 1 (xs.map int1)] (emp N) fun r H' => r = .ro 1 (xs.map int1) ∧ H' = emp N := Got1.ro (q30 N xs hn) (norefs_map int1_nr xs)
theorem o30 (H : Heap) (xs : List Int) (hn : xs.length ≤ 1048576) : Runs Try.prog 30 [.ro 1 (xs.map int1)] H fun r H' => r = .own H.nx xs.length ∧ H' = H.alloc ⟨1, xs.map int1⟩ := by
  have h := Got1.at (q30 H.nx xs hn) (Fzl.same _) (norefs_map int1_nr xs) (noros_map int1_no xs)
  rw [len_map] at h; exact h
theorem s24 (N : Nat) (xs : List Int) (hn : xs.length ≤ 1048576) : Runs Try.prog 24 [.ro 1 (xs.map int1), .ro 1 (xs.map int1)] (emp N) fun r H' => r = .v (.bool true) ∧ H' = emp N := by
  have hm : xs.length ≤ maxLen := by have : maxLen = 9223372036854775807 := rfl; omega
  refine C24_fn ?_
  unfold C24
  simp only [↓RP, RQ, if_true, if_false, cond_true, cond_false, vcBin, bne, ne_eq, vcRet, resAll, resA, retOf, Int.reduceEq, Int.reduceNe, Int.reduceLT, Int.reduceLE, Int.reduceGT, Int.reduceGE, Int.reduceBEq, Int.reduceBNe, Nat.reduceLT, Nat.reduceLeDiff, Nat.reduceAdd, Nat.reduceSub, Nat.reduceMul, Nat.reduceEqDiff, Nat.reduceBEq, Nat.reduceBNe, reduceCtorEq, Int.reduceNeg, len_map, int_refl]
  refine vcLoop.st (σ := Nat) 0 (fun i => i ≤ xs.length) (fun i => xs.length - i) (fun i => hl N [])
    (fun i => [.ro 1 (xs.map int1), .ro 1 (xs.map int1), .any, .any, .any, .v (.int .i64 i), .any, .any, .any, .any, .any, .any, .any, .any, .any, .any, .any, .any, .any, .any, .any, .any, .any, .any, .any, .any]) (Nat.zero_le _) (Dr.refl _) (by simp only [↓RP, RQ, if_true, if_false, cond_true, cond_false, vcBin, bne, ne_eq, vcRet, resAll, resA, retOf, Int.reduceEq, Int.reduceNe, Int.reduceLT, Int.reduceLE, Int.reduceGT, Int.reduceGE, Int.reduceBEq, Int.reduceBNe, Nat.reduceLT, Nat.reduceLeDiff, Nat.reduceAdd, Nat.reduceSub, Nat.reduceMul, Nat.reduceEqDiff, Nat.reduceBEq, Nat.reduceBNe, reduceCtorEq, Int.reduceNeg]) ?_
  intro i hi
  simp only [↓RP, RQ, if_true, if_false, cond_true, cond_false, vcBin, bne, ne_eq, vcRet, resAll, resA, retOf, Int.reduceEq, Int.reduceNe, Int.reduceLT, Int.reduceLE, Int.reduceGT, Int.reduceGE, Int.reduceBEq, Int.reduceBNe, Nat.reduceLT, Nat.reduceLeDiff, Nat.reduceAdd, Nat.reduceSub, Nat.reduceMul, Nat.reduceEqDiff, Nat.reduceBEq, Nat.reduceBNe, reduceCtorEq, Int.reduceNeg, len_map]
  refine vcIf.dec (fun h' => ?_) (fun h' => ?_)
  · have hlt : i < xs.length := by simpa using h'
    obtain ⟨x, hx0, hx, hd⟩ := at_i int1 xs hlt
    simp only [↓RP, RQ, if_true, if_false, cond_true, cond_false, vcBin, bne, ne_eq, vcRet, resAll, resA, retOf, Int.reduceEq, Int.reduceNe, Int.reduceLT, Int.reduceLE, Int.reduceGT, Int.reduceGE, Int.reduceBEq, Int.reduceBNe, Nat.reduceLT, Nat.reduceLeDiff, Nat.reduceAdd, Nat.reduceSub, Nat.reduceMul, Nat.reduceEqDiff, Nat.reduceBEq, Nat.reduceBNe, reduceCtorEq, Int.reduceNeg, len_map, nn, tn, lt_cast hlt, hx, int1, int_refl, str_refl, w_succ hlt hm]
    exact ⟨i + 1, by omega, hlt, by simp only [↓RP, RQ, if_true, if_false, cond_true, cond_false, vcBin, bne, ne_eq, vcRet, resAll, resA, retOf, Int.reduceEq, Int.reduceNe, Int.reduceLT, Int.reduceLE, Int.reduceGT, Int.reduceGE, Int.reduceBEq, Int.reduceBNe, Nat.reduceLT, Nat.reduceLeDiff, Nat.reduceAdd, Nat.reduceSub, Nat.reduceMul, Nat.reduceEqDiff, Nat.reduceBEq, Nat.reduceBNe, reduceCtorEq, Int.reduceNeg]⟩
  · simp only [↓RP, RQ, if_true, if_false, cond_true, cond_false, vcBin, bne, ne_eq, vcRet, resAll, resA, retOf, Int.reduceEq, Int.reduceNe, Int.reduceLT, Int.reduceLE, Int.reduceGT, Int.reduceGE, Int.reduceBEq, Int.reduceBNe, Nat.reduceLT, Nat.reduceLeDiff, Nat.reduceAdd, Nat.reduceSub, Nat.reduceMul, Nat.reduceEqDiff, Nat.reduceBEq, Nat.reduceBNe, reduceCtorEq, Int.reduceNeg]
def mkI (k : Nat) : List AV := [.v (.int .i64 (k : Nat))]
theorem mkI_flat (k : Nat) : ∀ a, a ∈ mkI k → ∃ v, a = AV.v v := by
  intro a h
  simp only [mkI, List.mem_cons, List.not_mem_nil, or_false] at h
  subst h; exact ⟨_, rfl⟩
theorem m27 (N b : Nat) (hbN : b < N) (xs : List Int) (k : Nat) (h0 : 0 < k) (hk : k + 1 * xs.length ≤ 100000000) : Runs Try.prog 27 [.own b xs.length, .v (.int .i64 (k : Nat))] (hl N [(b, some ⟨1, xs.map int1⟩)])
    fun r H' => r = .v (.int .i64 (k + 1 * xs.length : Nat)) ∧ H'.m b = some ⟨1, (List.range xs.length).map fun i => mkI (k + 1 * i)⟩ := by
  have hm : xs.length ≤ maxLen := by have : maxLen = 9223372036854775807 := rfl; omega
  refine C27_fn ?_
  unfold C27
  simp only [↓RP, RQ, if_true, if_false, cond_true, cond_false, vcBin, bne, ne_eq, vcRet, resAll, resA, retOf, Int.reduceEq, Int.reduceNe, Int.reduceLT, Int.reduceLE, Int.reduceGT, Int.reduceGE, Int.reduceBEq, Int.reduceBNe, Nat.reduceLT, Nat.reduceLeDiff, Nat.reduceAdd, Nat.reduceSub, Nat.reduceMul, Nat.reduceEqDiff, Nat.reduceBEq, Nat.reduceBNe, reduceCtorEq, Int.reduceNeg]
  refine vcLoop.st (σ := Nat) 0 (fun i => i ≤ xs.length) (fun i => xs.length - i) (fun i => hl N [(b, some ⟨1, mixR (fun i => mkI (k + 1 * i)) (xs.map int1) i⟩)])
    (fun i => [.own b xs.length, .v (.int .i64 (k + 1 * i : Nat)), .any, .any, .any, .v (.int .i64 i), .any, .any, .any, .any, .any, .any, .any, .any, .any, .any, .any, .any, .any]) (Nat.zero_le _) (by rw [mixR_zero]; exact Dr.refl _) (by simp only [↓RP, RQ, if_true, if_false, cond_true, cond_false, vcBin, bne, ne_eq, vcRet, resAll, resA, retOf, Int.reduceEq, Int.reduceNe, Int.reduceLT, Int.reduceLE, Int.reduceGT, Int.reduceGE, Int.reduceBEq, Int.reduceBNe, Nat.reduceLT, Nat.reduceLeDiff, Nat.reduceAdd, Nat.reduceSub, Nat.reduceMul, Nat.reduceEqDiff, Nat.reduceBEq, Nat.reduceBNe, reduceCtorEq, Int.reduceNeg, Nat.mul_zero, Nat.add_zero]) ?_
  intro i hi
  simp only [↓RP, RQ, if_true, if_false, cond_true, cond_false, vcBin, bne, ne_eq, vcRet, resAll, resA, retOf, Int.reduceEq, Int.reduceNe, Int.reduceLT, Int.reduceLE, Int.reduceGT, Int.reduceGE, Int.reduceBEq, Int.reduceBNe, Nat.reduceLT, Nat.reduceLeDiff, Nat.reduceAdd, Nat.reduceSub, Nat.reduceMul, Nat.reduceEqDiff, Nat.reduceBEq, Nat.reduceBNe, reduceCtorEq, Int.reduceNeg]
  refine vcIf.dec (fun h' => ?_) (fun h' => ?_)
  · have hlt : i < xs.length := by simpa using h'
    obtain ⟨x, hx0, hx, hd⟩ := at_i int1 xs hlt
    have hlR : i < (mixR (fun i => mkI (k + 1 * i)) (xs.map int1) i).length := by rw [mixR_len _ _ (by rw [len_map]; omega), len_map]; exact hlt
    have ha := (mixR_at (fun i => mkI (k + 1 * i)) (xs.map int1) i).trans hx
    have hst := (mixR_set (fun i => mkI (k + 1 * i)) (xs.map int1) (i := i) (by rw [len_map]; exact hlt)).symm
    obtain ⟨K, hK⟩ : ∃ K, k + 1 * i = K := ⟨_, rfl⟩
    have hmk : mkI K = [.v (.int .i64 (K : Nat))] := rfl
    have hK' : k + 1 * (i + 1) = K + 1 := by omega
    have hKb : K + 1 ≤ 100000000 := by
      have : 1 * i + 1 ≤ 1 * xs.length := by have := Nat.mul_le_mul_left 1 hlt; omega
      omega
    simp only [hK] at hst ⊢
    generalize hR : mixR (fun i => mkI (k + 1 * i)) (xs.map int1) i = R at *
    simp only [↓RP, RQ, if_true, if_false, cond_true, cond_false, vcBin, bne, ne_eq, vcRet, resAll, resA, retOf, Int.reduceEq, Int.reduceNe, Int.reduceLT, Int.reduceLE, Int.reduceGT, Int.reduceGE, Int.reduceBEq, Int.reduceBNe, Nat.reduceLT, Nat.reduceLeDiff, Nat.reduceAdd, Nat.reduceSub, Nat.reduceMul, Nat.reduceEqDiff, Nat.reduceBEq, Nat.reduceBNe, reduceCtorEq, Int.reduceNeg, len_map, nn, tn, lt_cast hlt, ha, hlR, len_set, getD_set, set_set, int1, w_succ (show K < 1000000000 by omega) (by decide), w_nat (show K ≤ maxLen from Nat.le_trans (show K ≤ 1000000000 by omega) (by decide))]

    simp only [↓RP, RQ, if_true, if_false, cond_true, cond_false, vcBin, bne, ne_eq, vcRet, resAll, resA, retOf, Int.reduceEq, Int.reduceNe, Int.reduceLT, Int.reduceLE, Int.reduceGT, Int.reduceGE, Int.reduceBEq, Int.reduceBNe, Nat.reduceLT, Nat.reduceLeDiff, Nat.reduceAdd, Nat.reduceSub, Nat.reduceMul, Nat.reduceEqDiff, Nat.reduceBEq, Nat.reduceBNe, reduceCtorEq, Int.reduceNeg, w_succ hlt hm]
    exact ⟨i + 1, by omega, hlt, by simp only [↓RP, RQ, if_true, if_false, cond_true, cond_false, vcBin, bne, ne_eq, vcRet, resAll, resA, retOf, Int.reduceEq, Int.reduceNe, Int.reduceLT, Int.reduceLE, Int.reduceGT, Int.reduceGE, Int.reduceBEq, Int.reduceBNe, Nat.reduceLT, Nat.reduceLeDiff, Nat.reduceAdd, Nat.reduceSub, Nat.reduceMul, Nat.reduceEqDiff, Nat.reduceBEq, Nat.reduceBNe, reduceCtorEq, Int.reduceNeg, hst, hmk], by simp only [↓RP, RQ, if_true, if_false, cond_true, cond_false, vcBin, bne, ne_eq, vcRet, resAll, resA, retOf, Int.reduceEq, Int.reduceNe, Int.reduceLT, Int.reduceLE, Int.reduceGT, Int.reduceGE, Int.reduceBEq, Int.reduceBNe, Nat.reduceLT, Nat.reduceLeDiff, Nat.reduceAdd, Nat.reduceSub, Nat.reduceMul, Nat.reduceEqDiff, Nat.reduceBEq, Nat.reduceBNe, reduceCtorEq, Int.reduceNeg, hK']⟩
  · have hge : i = xs.length := by simp at h'; omega
    subst hge
    have he := mixR_end (fun i => mkI (k + 1 * i)) (xs.map int1)
    rw [len_map] at he
    simp only [↓RP, RQ, if_true, if_false, cond_true, cond_false, vcBin, bne, ne_eq, vcRet, resAll, resA, retOf, Int.reduceEq, Int.reduceNe, Int.reduceLT, Int.reduceLE, Int.reduceGT, Int.reduceGE, Int.reduceBEq, Int.reduceBNe, Nat.reduceLT, Nat.reduceLeDiff, Nat.reduceAdd, Nat.reduceSub, Nat.reduceMul, Nat.reduceEqDiff, Nat.reduceBEq, Nat.reduceBNe, reduceCtorEq, Int.reduceNeg, he]
theorem n27 (N : Nat) (k : Nat) : Runs Try.prog 27 [.ro 1 [], .v (.int .i64 (k : Nat))] (emp N) fun r H' => r = .v (.int .i64 (k + 1 * 0 : Nat)) ∧ H' = emp N := by
  refine C27_fn ?_
  unfold C27
  simp only [↓RP, RQ, if_true, if_false, cond_true, cond_false, vcBin, bne, ne_eq, vcRet, resAll, resA, retOf, Int.reduceEq, Int.reduceNe, Int.reduceLT, Int.reduceLE, Int.reduceGT, Int.reduceGE, Int.reduceBEq, Int.reduceBNe, Nat.reduceLT, Nat.reduceLeDiff, Nat.reduceAdd, Nat.reduceSub, Nat.reduceMul, Nat.reduceEqDiff, Nat.reduceBEq, Nat.reduceBNe, reduceCtorEq, Int.reduceNeg]
  refine vcLoop.st (σ := Unit) () (fun _ => True) (fun _ => 0) (fun _ => hl N []) (fun _ => [.ro 1 [], .v (.int .i64 (k : Nat)), .any, .any, .any, .v (.int .i64 0), .any, .any, .any, .any, .any, .any, .any, .any, .any, .any, .any, .any, .any]) trivial (Dr.refl _) (by simp only [↓RP, RQ, if_true, if_false, cond_true, cond_false, vcBin, bne, ne_eq, vcRet, resAll, resA, retOf, Int.reduceEq, Int.reduceNe, Int.reduceLT, Int.reduceLE, Int.reduceGT, Int.reduceGE, Int.reduceBEq, Int.reduceBNe, Nat.reduceLT, Nat.reduceLeDiff, Nat.reduceAdd, Nat.reduceSub, Nat.reduceMul, Nat.reduceEqDiff, Nat.reduceBEq, Nat.reduceBNe, reduceCtorEq, Int.reduceNeg]) ?_
  rintro ⟨⟩ _
  simp only [↓RP, RQ, if_true, if_false, cond_true, cond_false, vcBin, bne, ne_eq, vcRet, resAll, resA, retOf, Int.reduceEq, Int.reduceNe, Int.reduceLT, Int.reduceLE, Int.reduceGT, Int.reduceGE, Int.reduceBEq, Int.reduceBNe, Nat.reduceLT, Nat.reduceLeDiff, Nat.reduceAdd, Nat.reduceSub, Nat.reduceMul, Nat.reduceEqDiff, Nat.reduceBEq, Nat.reduceBNe, reduceCtorEq, Int.reduceNeg, Int.lt_irrefl, Nat.mul_zero, Nat.add_zero]
theorem s28 (N n : Nat) (k : Nat) (h0 : 0 < k) (hk : k + 1 * n ≤ 100000000) : Runs Try.prog 28 [.ro 1 ((List.range n).map fun i => mkI (k + 1 * i)), .v (.int .i64 (k : Nat))] (emp N)
    fun r H' => r = .v (.int .i64 (k + 1 * n : Nat)) ∧ H' = emp N := by
  have hm : n ≤ maxLen := by have : maxLen = 9223372036854775807 := rfl; omega
  refine C28_fn ?_
  unfold C28
  simp only [↓RP, RQ, if_true, if_false, cond_true, cond_false, vcBin, bne, ne_eq, vcRet, resAll, resA, retOf, Int.reduceEq, Int.reduceNe, Int.reduceLT, Int.reduceLE, Int.reduceGT, Int.reduceGE, Int.reduceBEq, Int.reduceBNe, Nat.reduceLT, Nat.reduceLeDiff, Nat.reduceAdd, Nat.reduceSub, Nat.reduceMul, Nat.reduceEqDiff, Nat.reduceBEq, Nat.reduceBNe, reduceCtorEq, Int.reduceNeg]
  refine vcLoop.st (σ := Nat) 0 (fun i => i ≤ n) (fun i => n - i) (fun i => hl N [])
    (fun i => [.ro 1 ((List.range n).map fun i => mkI (k + 1 * i)), .v (.int .i64 (k + 1 * i : Nat)), .any, .any, .any, .v (.int .i64 i), .any, .any, .any, .any, .any, .any, .any, .any, .any, .any, .any, .any, .any, .any, .any]) (Nat.zero_le _) (Dr.refl _) (by simp only [↓RP, RQ, if_true, if_false, cond_true, cond_false, vcBin, bne, ne_eq, vcRet, resAll, resA, retOf, Int.reduceEq, Int.reduceNe, Int.reduceLT, Int.reduceLE, Int.reduceGT, Int.reduceGE, Int.reduceBEq, Int.reduceBNe, Nat.reduceLT, Nat.reduceLeDiff, Nat.reduceAdd, Nat.reduceSub, Nat.reduceMul, Nat.reduceEqDiff, Nat.reduceBEq, Nat.reduceBNe, reduceCtorEq, Int.reduceNeg, Nat.mul_zero, Nat.add_zero]) ?_
  intro i hi
  simp only [↓RP, RQ, if_true, if_false, cond_true, cond_false, vcBin, bne, ne_eq, vcRet, resAll, resA, retOf, Int.reduceEq, Int.reduceNe, Int.reduceLT, Int.reduceLE, Int.reduceGT, Int.reduceGE, Int.reduceBEq, Int.reduceBNe, Nat.reduceLT, Nat.reduceLeDiff, Nat.reduceAdd, Nat.reduceSub, Nat.reduceMul, Nat.reduceEqDiff, Nat.reduceBEq, Nat.reduceBNe, reduceCtorEq, Int.reduceNeg, len_map, len_range]
  refine vcIf.dec (fun h' => ?_) (fun h' => ?_)
  · have hlt : i < n := by simpa using h'
    have hat := range_at (fun i => mkI (k + 1 * i)) hlt
    obtain ⟨K, hK⟩ : ∃ K, k + 1 * i = K := ⟨_, rfl⟩
    have hmk : mkI K = [.v (.int .i64 (K : Nat))] := rfl
    have hK' : k + 1 * (i + 1) = K + 1 := by omega
    have hKb : K + 1 ≤ 100000000 := by
      have : 1 * i + 1 ≤ 1 * n := by have := Nat.mul_le_mul_left 1 hlt; omega
      omega
    simp only [hK] at hat ⊢
    simp only [↓RP, RQ, if_true, if_false, cond_true, cond_false, vcBin, bne, ne_eq, vcRet, resAll, resA, retOf, Int.reduceEq, Int.reduceNe, Int.reduceLT, Int.reduceLE, Int.reduceGT, Int.reduceGE, Int.reduceBEq, Int.reduceBNe, Nat.reduceLT, Nat.reduceLeDiff, Nat.reduceAdd, Nat.reduceSub, Nat.reduceMul, Nat.reduceEqDiff, Nat.reduceBEq, Nat.reduceBNe, reduceCtorEq, Int.reduceNeg, len_map, len_range, nn, tn, lt_cast hlt, hat, hmk, int_refl, str_refl, w_succ (show K < 1000000000 by omega) (by decide), w_nat (show K ≤ maxLen from Nat.le_trans (show K ≤ 1000000000 by omega) (by decide))]

    simp only [↓RP, RQ, if_true, if_false, cond_true, cond_false, vcBin, bne, ne_eq, vcRet, resAll, resA, retOf, Int.reduceEq, Int.reduceNe, Int.reduceLT, Int.reduceLE, Int.reduceGT, Int.reduceGE, Int.reduceBEq, Int.reduceBNe, Nat.reduceLT, Nat.reduceLeDiff, Nat.reduceAdd, Nat.reduceSub, Nat.reduceMul, Nat.reduceEqDiff, Nat.reduceBEq, Nat.reduceBNe, reduceCtorEq, Int.reduceNeg, w_succ hlt hm]
    exact ⟨i + 1, by omega, hlt, by simp only [↓RP, RQ, if_true, if_false, cond_true, cond_false, vcBin, bne, ne_eq, vcRet, resAll, resA, retOf, Int.reduceEq, Int.reduceNe, Int.reduceLT, Int.reduceLE, Int.reduceGT, Int.reduceGE, Int.reduceBEq, Int.reduceBNe, Nat.reduceLT, Nat.reduceLeDiff, Nat.reduceAdd, Nat.reduceSub, Nat.reduceMul, Nat.reduceEqDiff, Nat.reduceBEq, Nat.reduceBNe, reduceCtorEq, Int.reduceNeg, hK']⟩
  · have hge : i = n := by simp at h'; omega
    subst hge
    simp only [↓RP, RQ, if_true, if_false, cond_true, cond_false, vcBin, bne, ne_eq, vcRet, resAll, resA, retOf, Int.reduceEq, Int.reduceNe, Int.reduceLT, Int.reduceLE, Int.reduceGT, Int.reduceGE, Int.reduceBEq, Int.reduceBNe, Nat.reduceLT, Nat.reduceLeDiff, Nat.reduceAdd, Nat.reduceSub, Nat.reduceMul, Nat.reduceEqDiff, Nat.reduceBEq, Nat.reduceBNe, reduceCtorEq, Int.reduceNeg]
def mkSec (k : Nat) : List AV := [.v (.string (mtx k)), .v (.int .i64 (k + 1 : Nat)), .v (.int .i64 (k + 2 : Nat))]
theorem mkSec_flat (k : Nat) : ∀ a, a ∈ mkSec k → ∃ v, a = AV.v v := by
  intro a h
  simp only [mkSec, List.mem_cons, List.not_mem_nil, or_false] at h
  rcases h with rfl | rfl | rfl <;> exact ⟨_, rfl⟩
theorem m26 (N b : Nat) (hbN : b < N) (xs : List Sec) (k : Nat) (h0 : 0 < k) (hk : k + 3 * xs.length ≤ 100000000) : Runs Try.prog 26 [.own b xs.length, .v (.int .i64 (k : Nat))] (hl N [(b, some ⟨3, xs.map Sec.row⟩)])
    fun r H' => r = .v (.int .i64 (k + 3 * xs.length : Nat)) ∧ H'.m b = some ⟨3, (List.range xs.length).map fun i => mkSec (k + 3 * i)⟩ := by
  have hm : xs.length ≤ maxLen := by have : maxLen = 9223372036854775807 := rfl; omega
  refine C26_fn ?_
  unfold C26
  simp only [↓RP, RQ, if_true, if_false, cond_true, cond_false, vcBin, bne, ne_eq, vcRet, resAll, resA, retOf, Int.reduceEq, Int.reduceNe, Int.reduceLT, Int.reduceLE, Int.reduceGT, Int.reduceGE, Int.reduceBEq, Int.reduceBNe, Nat.reduceLT, Nat.reduceLeDiff, Nat.reduceAdd, Nat.reduceSub, Nat.reduceMul, Nat.reduceEqDiff, Nat.reduceBEq, Nat.reduceBNe, reduceCtorEq, Int.reduceNeg]
  refine vcLoop.st (σ := Nat) 0 (fun i => i ≤ xs.length) (fun i => xs.length - i) (fun i => hl N [(b, some ⟨3, mixR (fun i => mkSec (k + 3 * i)) (xs.map Sec.row) i⟩)])
    (fun i => [.own b xs.length, .v (.int .i64 (k + 3 * i : Nat)), .any, .any, .any, .v (.int .i64 i), .any, .any, .any, .any, .any, .any, .any, .any, .any, .any, .any, .any, .any, .any, .any, .any, .any, .any, .any, .any, .any, .any, .any, .any, .any, .any, .any, .any, .any]) (Nat.zero_le _) (by rw [mixR_zero]; exact Dr.refl _) (by simp only [↓RP, RQ, if_true, if_false, cond_true, cond_false, vcBin, bne, ne_eq, vcRet, resAll, resA, retOf, Int.reduceEq, Int.reduceNe, Int.reduceLT, Int.reduceLE, Int.reduceGT, Int.reduceGE, Int.reduceBEq, Int.reduceBNe, Nat.reduceLT, Nat.reduceLeDiff, Nat.reduceAdd, Nat.reduceSub, Nat.reduceMul, Nat.reduceEqDiff, Nat.reduceBEq, Nat.reduceBNe, reduceCtorEq, Int.reduceNeg, Nat.mul_zero, Nat.add_zero]) ?_
  intro i hi
  simp only [↓RP, RQ, if_true, if_false, cond_true, cond_false, vcBin, bne, ne_eq, vcRet, resAll, resA, retOf, Int.reduceEq, Int.reduceNe, Int.reduceLT, Int.reduceLE, Int.reduceGT, Int.reduceGE, Int.reduceBEq, Int.reduceBNe, Nat.reduceLT, Nat.reduceLeDiff, Nat.reduceAdd, Nat.reduceSub, Nat.reduceMul, Nat.reduceEqDiff, Nat.reduceBEq, Nat.reduceBNe, reduceCtorEq, Int.reduceNeg]
  refine vcIf.dec (fun h' => ?_) (fun h' => ?_)
  · have hlt : i < xs.length := by simpa using h'
    obtain ⟨x, hx0, hx, hd⟩ := at_i Sec.row xs hlt
    have hlR : i < (mixR (fun i => mkSec (k + 3 * i)) (xs.map Sec.row) i).length := by rw [mixR_len _ _ (by rw [len_map]; omega), len_map]; exact hlt
    have ha := (mixR_at (fun i => mkSec (k + 3 * i)) (xs.map Sec.row) i).trans hx
    have hst := (mixR_set (fun i => mkSec (k + 3 * i)) (xs.map Sec.row) (i := i) (by rw [len_map]; exact hlt)).symm
    obtain ⟨K, hK⟩ : ∃ K, k + 3 * i = K := ⟨_, rfl⟩
    have hmk : mkSec K = [.v (.string (mtx K)), .v (.int .i64 (K + 1 : Nat)), .v (.int .i64 (K + 2 : Nat))] := rfl
    have hK' : k + 3 * (i + 1) = K + 3 := by omega
    have hKb : K + 3 ≤ 100000000 := by
      have : 3 * i + 3 ≤ 3 * xs.length := by have := Nat.mul_le_mul_left 3 hlt; omega
      omega
    simp only [hK] at hst ⊢
    generalize hR : mixR (fun i => mkSec (k + 3 * i)) (xs.map Sec.row) i = R at *
    simp only [↓RP, RQ, if_true, if_false, cond_true, cond_false, vcBin, bne, ne_eq, vcRet, resAll, resA, retOf, Int.reduceEq, Int.reduceNe, Int.reduceLT, Int.reduceLE, Int.reduceGT, Int.reduceGE, Int.reduceBEq, Int.reduceBNe, Nat.reduceLT, Nat.reduceLeDiff, Nat.reduceAdd, Nat.reduceSub, Nat.reduceMul, Nat.reduceEqDiff, Nat.reduceBEq, Nat.reduceBNe, reduceCtorEq, Int.reduceNeg, len_map, nn, tn, lt_cast hlt, ha, hlR, len_set, getD_set, set_set, Sec.row, w_succ (show K < 1000000000 by omega) (by decide), w_nat (show K ≤ maxLen from Nat.le_trans (show K ≤ 1000000000 by omega) (by decide)), w_succ (show K + 1 < 1000000000 by omega) (by decide), w_succ (show K + 2 < 1000000000 by omega) (by decide)]
    first | refine vcCall.same (Runs.pure (s85 _ K (by omega) (by omega)) (Fzl.same _) (.v _)) ?_ | refine vcQCall.same (Runs.pure (s85 _ K (by omega) (by omega)) (Fzl.same _) (.v _)) ?_
    simp only [↓RP, RQ, if_true, if_false, cond_true, cond_false, vcBin, bne, ne_eq, vcRet, resAll, resA, retOf, Int.reduceEq, Int.reduceNe, Int.reduceLT, Int.reduceLE, Int.reduceGT, Int.reduceGE, Int.reduceBEq, Int.reduceBNe, Nat.reduceLT, Nat.reduceLeDiff, Nat.reduceAdd, Nat.reduceSub, Nat.reduceMul, Nat.reduceEqDiff, Nat.reduceBEq, Nat.reduceBNe, reduceCtorEq, Int.reduceNeg, len_map, nn, tn, lt_cast hlt, ha, hlR, len_set, getD_set, set_set, Sec.row, w_succ (show K < 1000000000 by omega) (by decide), w_nat (show K ≤ maxLen from Nat.le_trans (show K ≤ 1000000000 by omega) (by decide)), w_succ (show K + 1 < 1000000000 by omega) (by decide), w_succ (show K + 2 < 1000000000 by omega) (by decide)]
    simp only [↓RP, RQ, if_true, if_false, cond_true, cond_false, vcBin, bne, ne_eq, vcRet, resAll, resA, retOf, Int.reduceEq, Int.reduceNe, Int.reduceLT, Int.reduceLE, Int.reduceGT, Int.reduceGE, Int.reduceBEq, Int.reduceBNe, Nat.reduceLT, Nat.reduceLeDiff, Nat.reduceAdd, Nat.reduceSub, Nat.reduceMul, Nat.reduceEqDiff, Nat.reduceBEq, Nat.reduceBNe, reduceCtorEq, Int.reduceNeg, w_succ hlt hm]
    exact ⟨i + 1, by omega, hlt, by simp only [↓RP, RQ, if_true, if_false, cond_true, cond_false, vcBin, bne, ne_eq, vcRet, resAll, resA, retOf, Int.reduceEq, Int.reduceNe, Int.reduceLT, Int.reduceLE, Int.reduceGT, Int.reduceGE, Int.reduceBEq, Int.reduceBNe, Nat.reduceLT, Nat.reduceLeDiff, Nat.reduceAdd, Nat.reduceSub, Nat.reduceMul, Nat.reduceEqDiff, Nat.reduceBEq, Nat.reduceBNe, reduceCtorEq, Int.reduceNeg, hst, hmk], by simp only [↓RP, RQ, if_true, if_false, cond_true, cond_false, vcBin, bne, ne_eq, vcRet, resAll, resA, retOf, Int.reduceEq, Int.reduceNe, Int.reduceLT, Int.reduceLE, Int.reduceGT, Int.reduceGE, Int.reduceBEq, Int.reduceBNe, Nat.reduceLT, Nat.reduceLeDiff, Nat.reduceAdd, Nat.reduceSub, Nat.reduceMul, Nat.reduceEqDiff, Nat.reduceBEq, Nat.reduceBNe, reduceCtorEq, Int.reduceNeg, hK']⟩
  · have hge : i = xs.length := by simp at h'; omega
    subst hge
    have he := mixR_end (fun i => mkSec (k + 3 * i)) (xs.map Sec.row)
    rw [len_map] at he
    simp only [↓RP, RQ, if_true, if_false, cond_true, cond_false, vcBin, bne, ne_eq, vcRet, resAll, resA, retOf, Int.reduceEq, Int.reduceNe, Int.reduceLT, Int.reduceLE, Int.reduceGT, Int.reduceGE, Int.reduceBEq, Int.reduceBNe, Nat.reduceLT, Nat.reduceLeDiff, Nat.reduceAdd, Nat.reduceSub, Nat.reduceMul, Nat.reduceEqDiff, Nat.reduceBEq, Nat.reduceBNe, reduceCtorEq, Int.reduceNeg, he]
theorem n26 (N : Nat) (k : Nat) : Runs Try.prog 26 [.ro 3 [], .v (.int .i64 (k : Nat))] (emp N) fun r H' => r = .v (.int .i64 (k + 3 * 0 : Nat)) ∧ H' = emp N := by
  refine C26_fn ?_
  unfold C26
  simp only [↓RP, RQ, if_true, if_false, cond_true, cond_false, vcBin, bne, ne_eq, vcRet, resAll, resA, retOf, Int.reduceEq, Int.reduceNe, Int.reduceLT, Int.reduceLE, Int.reduceGT, Int.reduceGE, Int.reduceBEq, Int.reduceBNe, Nat.reduceLT, Nat.reduceLeDiff, Nat.reduceAdd, Nat.reduceSub, Nat.reduceMul, Nat.reduceEqDiff, Nat.reduceBEq, Nat.reduceBNe, reduceCtorEq, Int.reduceNeg]
  refine vcLoop.st (σ := Unit) () (fun _ => True) (fun _ => 0) (fun _ => hl N []) (fun _ => [.ro 3 [], .v (.int .i64 (k : Nat)), .any, .any, .any, .v (.int .i64 0), .any, .any, .any, .any, .any, .any, .any, .any, .any, .any, .any, .any, .any, .any, .any, .any, .any, .any, .any, .any, .any, .any, .any, .any, .any, .any, .any, .any, .any]) trivial (Dr.refl _) (by simp only [↓RP, RQ, if_true, if_false, cond_true, cond_false, vcBin, bne, ne_eq, vcRet, resAll, resA, retOf, Int.reduceEq, Int.reduceNe, Int.reduceLT, Int.reduceLE, Int.reduceGT, Int.reduceGE, Int.reduceBEq, Int.reduceBNe, Nat.reduceLT, Nat.reduceLeDiff, Nat.reduceAdd, Nat.reduceSub, Nat.reduceMul, Nat.reduceEqDiff, Nat.reduceBEq, Nat.reduceBNe, reduceCtorEq, Int.reduceNeg]) ?_
  rintro ⟨⟩ _
  simp only [↓RP, RQ, if_true, if_false, cond_true, cond_false, vcBin, bne, ne_eq, vcRet, resAll, resA, retOf, Int.reduceEq, Int.reduceNe, Int.reduceLT, Int.reduceLE, Int.reduceGT, Int.reduceGE, Int.reduceBEq, Int.reduceBNe, Nat.reduceLT, Nat.reduceLeDiff, Nat.reduceAdd, Nat.reduceSub, Nat.reduceMul, Nat.reduceEqDiff, Nat.reduceBEq, Nat.reduceBNe, reduceCtorEq, Int.reduceNeg, Int.lt_irrefl, Nat.mul_zero, Nat.add_zero]
theorem s32 (N n : Nat) (k : Nat) (h0 : 0 < k) (hk : k + 3 * n ≤ 100000000) : Runs Try.prog 32 [.ro 3 ((List.range n).map fun i => mkSec (k + 3 * i)), .v (.int .i64 (k : Nat))] (emp N)
    fun r H' => r = .v (.int .i64 (k + 3 * n : Nat)) ∧ H' = emp N := by
  have hm : n ≤ maxLen := by have : maxLen = 9223372036854775807 := rfl; omega
  refine C32_fn ?_
  unfold C32
  simp only [↓RP, RQ, if_true, if_false, cond_true, cond_false, vcBin, bne, ne_eq, vcRet, resAll, resA, retOf, Int.reduceEq, Int.reduceNe, Int.reduceLT, Int.reduceLE, Int.reduceGT, Int.reduceGE, Int.reduceBEq, Int.reduceBNe, Nat.reduceLT, Nat.reduceLeDiff, Nat.reduceAdd, Nat.reduceSub, Nat.reduceMul, Nat.reduceEqDiff, Nat.reduceBEq, Nat.reduceBNe, reduceCtorEq, Int.reduceNeg]
  refine vcLoop.st (σ := Nat) 0 (fun i => i ≤ n) (fun i => n - i) (fun i => hl N [])
    (fun i => [.ro 3 ((List.range n).map fun i => mkSec (k + 3 * i)), .v (.int .i64 (k + 3 * i : Nat)), .any, .any, .any, .v (.int .i64 i), .any, .any, .any, .any, .any, .any, .any, .any, .any, .any, .any, .any, .any, .any, .any, .any, .any, .any, .any, .any, .any, .any, .any, .any, .any, .any, .any, .any, .any, .any, .any, .any, .any, .any, .any]) (Nat.zero_le _) (Dr.refl _) (by simp only [↓RP, RQ, if_true, if_false, cond_true, cond_false, vcBin, bne, ne_eq, vcRet, resAll, resA, retOf, Int.reduceEq, Int.reduceNe, Int.reduceLT, Int.reduceLE, Int.reduceGT, Int.reduceGE, Int.reduceBEq, Int.reduceBNe, Nat.reduceLT, Nat.reduceLeDiff, Nat.reduceAdd, Nat.reduceSub, Nat.reduceMul, Nat.reduceEqDiff, Nat.reduceBEq, Nat.reduceBNe, reduceCtorEq, Int.reduceNeg, Nat.mul_zero, Nat.add_zero]) ?_
  intro i hi
  simp only [↓RP, RQ, if_true, if_false, cond_true, cond_false, vcBin, bne, ne_eq, vcRet, resAll, resA, retOf, Int.reduceEq, Int.reduceNe, Int.reduceLT, Int.reduceLE, Int.reduceGT, Int.reduceGE, Int.reduceBEq, Int.reduceBNe, Nat.reduceLT, Nat.reduceLeDiff, Nat.reduceAdd, Nat.reduceSub, Nat.reduceMul, Nat.reduceEqDiff, Nat.reduceBEq, Nat.reduceBNe, reduceCtorEq, Int.reduceNeg, len_map, len_range]
  refine vcIf.dec (fun h' => ?_) (fun h' => ?_)
  · have hlt : i < n := by simpa using h'
    have hat := range_at (fun i => mkSec (k + 3 * i)) hlt
    obtain ⟨K, hK⟩ : ∃ K, k + 3 * i = K := ⟨_, rfl⟩
    have hmk : mkSec K = [.v (.string (mtx K)), .v (.int .i64 (K + 1 : Nat)), .v (.int .i64 (K + 2 : Nat))] := rfl
    have hK' : k + 3 * (i + 1) = K + 3 := by omega
    have hKb : K + 3 ≤ 100000000 := by
      have : 3 * i + 3 ≤ 3 * n := by have := Nat.mul_le_mul_left 3 hlt; omega
      omega
    simp only [hK] at hat ⊢
    simp only [↓RP, RQ, if_true, if_false, cond_true, cond_false, vcBin, bne, ne_eq, vcRet, resAll, resA, retOf, Int.reduceEq, Int.reduceNe, Int.reduceLT, Int.reduceLE, Int.reduceGT, Int.reduceGE, Int.reduceBEq, Int.reduceBNe, Nat.reduceLT, Nat.reduceLeDiff, Nat.reduceAdd, Nat.reduceSub, Nat.reduceMul, Nat.reduceEqDiff, Nat.reduceBEq, Nat.reduceBNe, reduceCtorEq, Int.reduceNeg, len_map, len_range, nn, tn, lt_cast hlt, hat, hmk, int_refl, str_refl, w_succ (show K < 1000000000 by omega) (by decide), w_nat (show K ≤ maxLen from Nat.le_trans (show K ≤ 1000000000 by omega) (by decide)), w_succ (show K + 1 < 1000000000 by omega) (by decide), w_succ (show K + 2 < 1000000000 by omega) (by decide)]
    first | refine vcCall.same (Runs.pure (s85 _ K (by omega) (by omega)) (Fzl.same _) (.v _)) ?_ | refine vcQCall.same (Runs.pure (s85 _ K (by omega) (by omega)) (Fzl.same _) (.v _)) ?_
    simp only [↓RP, RQ, if_true, if_false, cond_true, cond_false, vcBin, bne, ne_eq, vcRet, resAll, resA, retOf, Int.reduceEq, Int.reduceNe, Int.reduceLT, Int.reduceLE, Int.reduceGT, Int.reduceGE, Int.reduceBEq, Int.reduceBNe, Nat.reduceLT, Nat.reduceLeDiff, Nat.reduceAdd, Nat.reduceSub, Nat.reduceMul, Nat.reduceEqDiff, Nat.reduceBEq, Nat.reduceBNe, reduceCtorEq, Int.reduceNeg, len_map, len_range, nn, tn, lt_cast hlt, hat, hmk, int_refl, str_refl, w_succ (show K < 1000000000 by omega) (by decide), w_nat (show K ≤ maxLen from Nat.le_trans (show K ≤ 1000000000 by omega) (by decide)), w_succ (show K + 1 < 1000000000 by omega) (by decide), w_succ (show K + 2 < 1000000000 by omega) (by decide)]
    simp only [↓RP, RQ, if_true, if_false, cond_true, cond_false, vcBin, bne, ne_eq, vcRet, resAll, resA, retOf, Int.reduceEq, Int.reduceNe, Int.reduceLT, Int.reduceLE, Int.reduceGT, Int.reduceGE, Int.reduceBEq, Int.reduceBNe, Nat.reduceLT, Nat.reduceLeDiff, Nat.reduceAdd, Nat.reduceSub, Nat.reduceMul, Nat.reduceEqDiff, Nat.reduceBEq, Nat.reduceBNe, reduceCtorEq, Int.reduceNeg, w_succ hlt hm]
    exact ⟨i + 1, by omega, hlt, by simp only [↓RP, RQ, if_true, if_false, cond_true, cond_false, vcBin, bne, ne_eq, vcRet, resAll, resA, retOf, Int.reduceEq, Int.reduceNe, Int.reduceLT, Int.reduceLE, Int.reduceGT, Int.reduceGE, Int.reduceBEq, Int.reduceBNe, Nat.reduceLT, Nat.reduceLeDiff, Nat.reduceAdd, Nat.reduceSub, Nat.reduceMul, Nat.reduceEqDiff, Nat.reduceBEq, Nat.reduceBNe, reduceCtorEq, Int.reduceNeg, hK']⟩
  · have hge : i = n := by simp at h'; omega
    subst hge
    simp only [↓RP, RQ, if_true, if_false, cond_true, cond_false, vcBin, bne, ne_eq, vcRet, resAll, resA, retOf, Int.reduceEq, Int.reduceNe, Int.reduceLT, Int.reduceLE, Int.reduceGT, Int.reduceGE, Int.reduceBEq, Int.reduceBNe, Nat.reduceLT, Nat.reduceLeDiff, Nat.reduceAdd, Nat.reduceSub, Nat.reduceMul, Nat.reduceEqDiff, Nat.reduceBEq, Nat.reduceBNe, reduceCtorEq, Int.reduceNeg]
end Go.Proofs.Ytbgnlnlgjmipfaa
