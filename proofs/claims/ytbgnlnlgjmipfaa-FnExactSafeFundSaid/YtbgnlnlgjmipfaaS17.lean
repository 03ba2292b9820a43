/- Contracts about a fund that pays a party at least an amount. -/
import Derived.Test.YtbgnlnlgjmipfaaK3
import Derived.Test.YtbgnlnlgjmipfaaK4
import Derived.Test.YtbgnlnlgjmipfaaS15
set_option linter.unusedVariables false
set_option linter.unusedSimpArgs false
namespace Go.Proofs.Ytbgnlnlgjmipfaa
open Go.Abs
/-- A quotient, rounded up. -/
def ceilI (P b : Int) : Int := (P + b - 1) / b
theorem ceil_eq {P b : Int} (hP : 0 ≤ P) (hb : 0 < b) : (if P % b > 0 then P / b + 1 else P / b) = ceilI P b := by
  have h1 := Int.mul_ediv_add_emod P b
  have h2 := Int.emod_nonneg P (show b ≠ 0 by omega)
  have h3 := Int.emod_lt_of_pos P hb
  unfold ceilI
  have e : P + b - 1 = (P % b + b - 1) + b * (P / b) := by omega
  rw [e, Int.add_mul_ediv_left _ _ (show b ≠ 0 by omega)]
  split
  · rename_i h
    have e2 : P % b + b - 1 = (P % b - 1) + b * 1 := by omega
    rw [e2, Int.add_mul_ediv_left _ _ (show b ≠ 0 by omega), Int.ediv_eq_zero_of_lt (a := P % b - 1) (b := b) (by omega) (by omega)]; omega
  · rw [Int.ediv_eq_zero_of_lt (a := P % b + b - 1) (b := b) (by omega) (by omega)]; omega
theorem ceil_b {P b : Int} (hP : 0 ≤ P) (hb : 0 < b) : 0 ≤ ceilI P b ∧ ceilI P b ≤ P + 1 := by
  rw [← ceil_eq hP hb]
  have h1 := Int.ediv_nonneg hP (Int.le_of_lt hb)
  have h2 := Int.ediv_le_self b hP
  split <;> omega
theorem s147 (N : Nat) (P b : Int) (hP : 0 ≤ P) (hP' : P ≤ 4000000000000000000) (hb : 0 < b) (hb' : b ≤ 4000000000000000000) : Runs Try.prog 147 [.v (.int .i64 (-P)), .v (.int .i64 b)] (emp N) fun r H' => r = .v (.int .i64 (-ceilI P b)) ∧ H' = emp N := by
  have h1 := Int.ediv_nonneg hP (Int.le_of_lt hb)
  have h2 := Int.ediv_le_self b hP
  have hc := ceil_eq hP hb
  have e0 : (b < 0) = False := by simp; omega
  have e1 : (b = 0) = False := by simp; omega
  have e2 : Int.tdiv (-P) b = -(P / b) := by rw [Int.neg_tdiv, Int.tdiv_eq_ediv_of_nonneg hP]
  have e3 : Int.tmod (-P) b = -(P % b) := by rw [Int.neg_tmod, Int.tmod_eq_emod_of_nonneg hP]
  have e4 : IntKind.i64.wrap (-(P / b)) = -(P / b) := w64 (by omega) (by omega)
  have e5 : IntKind.i64.wrap (-(P / b) - 1) = -(P / b) - 1 := w64 (by omega) (by omega)
  have e6 : decide (b < 0) = false := decF (by omega)
  refine C147_fn ?_
  unfold C147
  simp only [↓RP, RQ, if_true, if_false, cond_true, cond_false, vcBin, bne, ne_eq, vcRet, resAll, resA, retOf, Int.reduceEq, Int.reduceNe, Int.reduceLT, Int.reduceLE, Int.reduceGT, Int.reduceGE, Int.reduceBEq, Int.reduceBNe, Nat.reduceLT, Nat.reduceLeDiff, Nat.reduceAdd, Nat.reduceSub, Nat.reduceMul, Nat.reduceEqDiff, Nat.reduceBEq, Nat.reduceBNe, reduceCtorEq, Int.reduceNeg, e6, e1, e2, e3, e4, not_false_eq_true]
  first | refine vcIf.dec (fun h3 => ?_) (fun h3 => ?_) | refine vcQIf.dec (fun h3 => ?_) (fun h3 => ?_)
  · rw [if_pos (by omega)] at hc
    simp only [↓RP, RQ, if_true, if_false, cond_true, cond_false, vcBin, bne, ne_eq, vcRet, resAll, resA, retOf, Int.reduceEq, Int.reduceNe, Int.reduceLT, Int.reduceLE, Int.reduceGT, Int.reduceGE, Int.reduceBEq, Int.reduceBNe, Nat.reduceLT, Nat.reduceLeDiff, Nat.reduceAdd, Nat.reduceSub, Nat.reduceMul, Nat.reduceEqDiff, Nat.reduceBEq, Nat.reduceBNe, reduceCtorEq, Int.reduceNeg, h3, e5]
    rw [← hc, show -(P / b) - 1 = -(P / b + 1) by omega]
  · rw [if_neg (by omega)] at hc
    simp only [↓RP, RQ, if_true, if_false, cond_true, cond_false, vcBin, bne, ne_eq, vcRet, resAll, resA, retOf, Int.reduceEq, Int.reduceNe, Int.reduceLT, Int.reduceLE, Int.reduceGT, Int.reduceGE, Int.reduceBEq, Int.reduceBNe, Nat.reduceLT, Nat.reduceLeDiff, Nat.reduceAdd, Nat.reduceSub, Nat.reduceMul, Nat.reduceEqDiff, Nat.reduceBEq, Nat.reduceBNe, reduceCtorEq, Int.reduceNeg, h3]
    rw [← hc]
theorem s106 (N : Nat) (P b : Int) (hP : 0 ≤ P) (hP' : P ≤ 4000000000000000000) (hb : 0 < b) (hb' : b ≤ 4000000000000000000) : Runs Try.prog 106 [.v (.int .i64 P), .v (.int .i64 b)] (emp N) fun r H' => r = .v (.int .i64 (ceilI P b)) ∧ H' = emp N := by
  have hc := ceil_b hP hb
  have e1 : IntKind.i64.wrap (0 - P) = -P := by rw [w64 (by omega) (by omega)]; omega
  have e2 : IntKind.i64.wrap (0 - -ceilI P b) = ceilI P b := by rw [w64 (by omega) (by omega)]; omega
  refine C106_fn ?_
  unfold C106
  simp only [↓RP, RQ, if_true, if_false, cond_true, cond_false, vcBin, bne, ne_eq, vcRet, resAll, resA, retOf, Int.reduceEq, Int.reduceNe, Int.reduceLT, Int.reduceLE, Int.reduceGT, Int.reduceGE, Int.reduceBEq, Int.reduceBNe, Nat.reduceLT, Nat.reduceLeDiff, Nat.reduceAdd, Nat.reduceSub, Nat.reduceMul, Nat.reduceEqDiff, Nat.reduceBEq, Nat.reduceBNe, reduceCtorEq, Int.reduceNeg, e1]
  first | refine vcCall.same (s147 N P b hP hP' hb hb') ?_ | refine vcQCall.same (s147 N P b hP hP' hb hb') ?_
  simp only [↓RP, RQ, if_true, if_false, cond_true, cond_false, vcBin, bne, ne_eq, vcRet, resAll, resA, retOf, Int.reduceEq, Int.reduceNe, Int.reduceLT, Int.reduceLE, Int.reduceGT, Int.reduceGE, Int.reduceBEq, Int.reduceBNe, Nat.reduceLT, Nat.reduceLeDiff, Nat.reduceAdd, Nat.reduceSub, Nat.reduceMul, Nat.reduceEqDiff, Nat.reduceBEq, Nat.reduceBNe, reduceCtorEq, Int.reduceNeg, e2]
def befF (k : Int) (n : Int) (x : Dem) : Int := if x.rank < k then IntKind.i64.wrap (n + x.asked) else n
theorem bef_eq (k : Int) (n : Int) : ∀ (xs : List Dem), xs.foldl (befF k) n = xs.foldl (upF (k - 1)) n := by
  intro xs
  congr 1
  funext n x
  unfold befF upF
  by_cases h : x.rank < k
  · rw [if_pos h, if_pos (by omega)]
  · rw [if_neg h, if_neg (by omega)]
theorem askN_I (k : Int) (xs : List Dem) : xs.map (askI k k) = xs.map (askN k) := by
  apply List.map_congr_left
  intro x _
  rw [askI_if, askN]
  simp only [beq_iff_eq]
  split <;> split <;> first | rfl | omega
def safV (xs : List Dem) (d : Dem) (a : Int) : Int := askA xs (d.rank - 1) + ceilI (a * sumI (xs.map (askN d.rank))) d.asked
def safT (xs : List Dem) (p : ByteArray) (a : Int) : Int × Int := bif areDem xs then (bif isAmt a then (match xs.find? (Dem.is p) with
  | some d => bif decide (d.asked < a) then (0, 5) else (bif isAmt (sumI (xs.map (askN d.rank))) then (bif a == 0 then (0, 0) else (lim (safV xs d a), limC (safV xs d a))) else (0, 3))
  | none => (0, 4)) else (0, 2)) else (0, 1)
theorem mul_b {a s : Int} (h0 : 0 ≤ a) (h1 : a ≤ 1000000000) (h2 : 0 ≤ s) (h3 : s ≤ 1000000000) : 0 ≤ a * s ∧ a * s ≤ 1000000000000000000 := by
  have h4 : a * s ≤ 1000000000 * 1000000000 := Int.mul_le_mul h1 h3 h2 (by omega)
  exact ⟨Int.mul_nonneg h0 h2, by omega⟩
theorem amt_b {n : Int} (h : isAmt n = true) : 0 ≤ n ∧ n ≤ 1000000000 := by
  simpa only [isAmt, inR, Bool.and_eq_true, decide_eq_true_eq] using h
theorem s42 (N : Nat) (xs : List Dem) (hn : xs.length ≤ 1048576) (hx : ∀ x, x ∈ xs → x.ok) (p : ByteArray) (hp : p.size ≤ 1048576) (a : Int) (hr : -9223372036854775808 ≤ a ∧ a < 9223372036854775808) :
    Runs Try.prog 42 [.ro 3 (xs.map Dem.row), .v (.string p), .v (.int .i64 a)] (emp N) fun r H' => r = .tup [.v (.int .i64 (safT xs p a).1), .v (.int .i64 (safT xs p a).2)] ∧ H' = emp N := by
  have hm : xs.length ≤ maxLen := by have : maxLen = 9223372036854775807 := rfl; omega
  refine C42_fn ?_
  unfold C42
  simp only [↓RP, RQ, if_true, if_false, cond_true, cond_false, vcBin, bne, ne_eq, vcRet, resAll, resA, retOf, Int.reduceEq, Int.reduceNe, Int.reduceLT, Int.reduceLE, Int.reduceGT, Int.reduceGE, Int.reduceBEq, Int.reduceBNe, Nat.reduceLT, Nat.reduceLeDiff, Nat.reduceAdd, Nat.reduceSub, Nat.reduceMul, Nat.reduceEqDiff, Nat.reduceBEq, Nat.reduceBNe, reduceCtorEq, Int.reduceNeg]
  first | refine vcCall.same (s102 N xs hn hx a) ?_ | refine vcQCall.same (s102 N xs hn hx a) ?_
  cases ha : areDem xs with
  | false => simp only [↓RP, RQ, if_true, if_false, cond_true, cond_false, vcBin, bne, ne_eq, vcRet, resAll, resA, retOf, Int.reduceEq, Int.reduceNe, Int.reduceLT, Int.reduceLE, Int.reduceGT, Int.reduceGE, Int.reduceBEq, Int.reduceBNe, Nat.reduceLT, Nat.reduceLeDiff, Nat.reduceAdd, Nat.reduceSub, Nat.reduceMul, Nat.reduceEqDiff, Nat.reduceBEq, Nat.reduceBNe, reduceCtorEq, Int.reduceNeg, ha, safT]
  | true => cases h2 : isAmt a with
    | false => simp only [↓RP, RQ, if_true, if_false, cond_true, cond_false, vcBin, bne, ne_eq, vcRet, resAll, resA, retOf, Int.reduceEq, Int.reduceNe, Int.reduceLT, Int.reduceLE, Int.reduceGT, Int.reduceGE, Int.reduceBEq, Int.reduceBNe, Nat.reduceLT, Nat.reduceLeDiff, Nat.reduceAdd, Nat.reduceSub, Nat.reduceMul, Nat.reduceEqDiff, Nat.reduceBEq, Nat.reduceBNe, reduceCtorEq, Int.reduceNeg, ha, h2, safT]
    | true =>
      simp only [↓RP, RQ, if_true, if_false, cond_true, cond_false, vcBin, bne, ne_eq, vcRet, resAll, resA, retOf, Int.reduceEq, Int.reduceNe, Int.reduceLT, Int.reduceLE, Int.reduceGT, Int.reduceGE, Int.reduceBEq, Int.reduceBNe, Nat.reduceLT, Nat.reduceLeDiff, Nat.reduceAdd, Nat.reduceSub, Nat.reduceMul, Nat.reduceEqDiff, Nat.reduceBEq, Nat.reduceBNe, reduceCtorEq, Int.reduceNeg, ha, h2]
      first | refine vcCall.same (s91 N xs hn p) ?_ | refine vcQCall.same (s91 N xs hn p) ?_
      rcases idx_find (Dem.is p) xs 0 with ⟨h3, h4⟩ | ⟨i, d, h3, h4, h5, h6, _⟩
      · simp only [↓RP, RQ, if_true, if_false, cond_true, cond_false, vcBin, bne, ne_eq, vcRet, resAll, resA, retOf, Int.reduceEq, Int.reduceNe, Int.reduceLT, Int.reduceLE, Int.reduceGT, Int.reduceGE, Int.reduceBEq, Int.reduceBNe, Nat.reduceLT, Nat.reduceLeDiff, Nat.reduceAdd, Nat.reduceSub, Nat.reduceMul, Nat.reduceEqDiff, Nat.reduceBEq, Nat.reduceBNe, reduceCtorEq, Int.reduceNeg, h4, safT, ha, h2, h3]
      · rw [Int.zero_add] at h4
        obtain ⟨hlt0, hrow⟩ := at_some Dem.row h6
        have hneg : ((i : Int) < 0) = False := by simp
        have hall := (areDem_good ha).2
        have hlen := (areDem_good ha).1
        have hgd := good_amt (hall d (List.mem_of_getElem? h6))
        have hda := amt_b hgd.1
        have haa := amt_b h2
        simp only [↓RP, RQ, if_true, if_false, cond_true, cond_false, vcBin, bne, ne_eq, vcRet, resAll, resA, retOf, Int.reduceEq, Int.reduceNe, Int.reduceLT, Int.reduceLE, Int.reduceGT, Int.reduceGE, Int.reduceBEq, Int.reduceBNe, Nat.reduceLT, Nat.reduceLeDiff, Nat.reduceAdd, Nat.reduceSub, Nat.reduceMul, Nat.reduceEqDiff, Nat.reduceBEq, Nat.reduceBNe, reduceCtorEq, Int.reduceNeg, h4, hneg, len_map, nn, tn, lt_cast hlt0, hrow, Dem.row]
        first | refine vcIf.dec (fun h7 => ?_) (fun h7 => ?_) | refine vcQIf.dec (fun h7 => ?_) (fun h7 => ?_)
        · simp only [↓RP, RQ, if_true, if_false, cond_true, cond_false, vcBin, bne, ne_eq, vcRet, resAll, resA, retOf, Int.reduceEq, Int.reduceNe, Int.reduceLT, Int.reduceLE, Int.reduceGT, Int.reduceGE, Int.reduceBEq, Int.reduceBNe, Nat.reduceLT, Nat.reduceLeDiff, Nat.reduceAdd, Nat.reduceSub, Nat.reduceMul, Nat.reduceEqDiff, Nat.reduceBEq, Nat.reduceBNe, reduceCtorEq, Int.reduceNeg, h7, safT, ha, h2, h3, decT h7]
        · simp only [↓RP, RQ, if_true, if_false, cond_true, cond_false, vcBin, bne, ne_eq, vcRet, resAll, resA, retOf, Int.reduceEq, Int.reduceNe, Int.reduceLT, Int.reduceLE, Int.reduceGT, Int.reduceGE, Int.reduceBEq, Int.reduceBNe, Nat.reduceLT, Nat.reduceLeDiff, Nat.reduceAdd, Nat.reduceSub, Nat.reduceMul, Nat.reduceEqDiff, Nat.reduceBEq, Nat.reduceBNe, reduceCtorEq, Int.reduceNeg, h7]
          have hbe := bef_eq d.rank 0 xs
          rw [up_eq _ xs 0 fun x hx => (good_amt (hall x hx)).2] at hbe
          obtain ⟨hab1, hab2, hab3⟩ := askA_bound (fun x hx => (good_amt (hall x hx)).1) hlen (d.rank - 1)
          rw [hab1] at hbe
          obtain ⟨hs1, hs2, hs3⟩ := sumW_eq (askN_bound (fun x hx => (good_amt (hall x hx)).1) d.rank) (by simp; omega)
          refine vcLoop.st (σ := Nat × Int) (0, 0) (fun s => s.1 ≤ xs.length ∧ askA xs (d.rank - 1) = (xs.drop s.1).foldl (befF d.rank) s.2) (fun s => xs.length - s.1) (fun s => hl N [])
            (fun s => [.ro 3 (xs.map Dem.row), .any, .v (.int .i64 a), .any, .any, .any, .any, .any, .any, .v (.int .i64 i), .v (.int .i64 s.2), .v (.int .i64 s.1), .any, .any, .any, .any, .any, .any, .any, .any, .any, .any, .any, .any, .any, .any, .any, .any, .any, .any, .any, .any, .any, .any, .any, .any, .any, .any, .any, .any, .any, .any, .any, .any, .any, .any, .any, .any, .any, .any, .any, .any, .any, .any, .any, .any, .any, .any, .any, .any, .any, .any, .any, .any, .any, .any, .any, .any, .any, .any, .any, .any, .any, .any, .any, .any, .any, .any, .any, .any, .any, .any]) ⟨Nat.zero_le _, hbe.symm⟩ (Dr.refl _) (by simp only [↓RP, RQ, if_true, if_false, cond_true, cond_false, vcBin, bne, ne_eq, vcRet, resAll, resA, retOf, Int.reduceEq, Int.reduceNe, Int.reduceLT, Int.reduceLE, Int.reduceGT, Int.reduceGE, Int.reduceBEq, Int.reduceBNe, Nat.reduceLT, Nat.reduceLeDiff, Nat.reduceAdd, Nat.reduceSub, Nat.reduceMul, Nat.reduceEqDiff, Nat.reduceBEq, Nat.reduceBNe, reduceCtorEq, Int.reduceNeg]) ?_
          rintro ⟨j, n⟩ ⟨hi', hg⟩
          simp only [↓RP, RQ, if_true, if_false, cond_true, cond_false, vcBin, bne, ne_eq, vcRet, resAll, resA, retOf, Int.reduceEq, Int.reduceNe, Int.reduceLT, Int.reduceLE, Int.reduceGT, Int.reduceGE, Int.reduceBEq, Int.reduceBNe, Nat.reduceLT, Nat.reduceLeDiff, Nat.reduceAdd, Nat.reduceSub, Nat.reduceMul, Nat.reduceEqDiff, Nat.reduceBEq, Nat.reduceBNe, reduceCtorEq, Int.reduceNeg, len_map]
          refine vcIf.dec (fun h' => ?_) (fun h' => ?_)
          · have hlt : j < xs.length := by simpa using h'
            obtain ⟨x, hx0, hx1, hd⟩ := at_i Dem.row xs hlt
            rw [hd, List.foldl_cons, befF] at hg
            simp only [↓RP, RQ, if_true, if_false, cond_true, cond_false, vcBin, bne, ne_eq, vcRet, resAll, resA, retOf, Int.reduceEq, Int.reduceNe, Int.reduceLT, Int.reduceLE, Int.reduceGT, Int.reduceGE, Int.reduceBEq, Int.reduceBNe, Nat.reduceLT, Nat.reduceLeDiff, Nat.reduceAdd, Nat.reduceSub, Nat.reduceMul, Nat.reduceEqDiff, Nat.reduceBEq, Nat.reduceBNe, reduceCtorEq, Int.reduceNeg, len_map, nn, tn, lt_cast hlt, lt_cast hlt0, hrow, hx1, Dem.row]
            first | refine vcIf.dec (fun h8 => ?_) (fun h8 => ?_) | refine vcQIf.dec (fun h8 => ?_) (fun h8 => ?_)
            · rw [if_pos h8] at hg
              simp only [↓RP, RQ, if_true, if_false, cond_true, cond_false, vcBin, bne, ne_eq, vcRet, resAll, resA, retOf, Int.reduceEq, Int.reduceNe, Int.reduceLT, Int.reduceLE, Int.reduceGT, Int.reduceGE, Int.reduceBEq, Int.reduceBNe, Nat.reduceLT, Nat.reduceLeDiff, Nat.reduceAdd, Nat.reduceSub, Nat.reduceMul, Nat.reduceEqDiff, Nat.reduceBEq, Nat.reduceBNe, reduceCtorEq, Int.reduceNeg, h8, len_map, nn, tn, lt_cast hlt, hx1, Dem.row, w_succ hlt hm]
              exact ⟨(j + 1, IntKind.i64.wrap (n + x.asked)), by show xs.length - (j + 1) < xs.length - j; omega, ⟨hlt, hg⟩, by simp only [↓RP, RQ, if_true, if_false, cond_true, cond_false, vcBin, bne, ne_eq, vcRet, resAll, resA, retOf, Int.reduceEq, Int.reduceNe, Int.reduceLT, Int.reduceLE, Int.reduceGT, Int.reduceGE, Int.reduceBEq, Int.reduceBNe, Nat.reduceLT, Nat.reduceLeDiff, Nat.reduceAdd, Nat.reduceSub, Nat.reduceMul, Nat.reduceEqDiff, Nat.reduceBEq, Nat.reduceBNe, reduceCtorEq, Int.reduceNeg]⟩
            · rw [if_neg h8] at hg
              simp only [↓RP, RQ, if_true, if_false, cond_true, cond_false, vcBin, bne, ne_eq, vcRet, resAll, resA, retOf, Int.reduceEq, Int.reduceNe, Int.reduceLT, Int.reduceLE, Int.reduceGT, Int.reduceGE, Int.reduceBEq, Int.reduceBNe, Nat.reduceLT, Nat.reduceLeDiff, Nat.reduceAdd, Nat.reduceSub, Nat.reduceMul, Nat.reduceEqDiff, Nat.reduceBEq, Nat.reduceBNe, reduceCtorEq, Int.reduceNeg, h8, w_succ hlt hm]
              exact ⟨(j + 1, n), by show xs.length - (j + 1) < xs.length - j; omega, ⟨hlt, hg⟩, by simp only [↓RP, RQ, if_true, if_false, cond_true, cond_false, vcBin, bne, ne_eq, vcRet, resAll, resA, retOf, Int.reduceEq, Int.reduceNe, Int.reduceLT, Int.reduceLE, Int.reduceGT, Int.reduceGE, Int.reduceBEq, Int.reduceBNe, Nat.reduceLT, Nat.reduceLeDiff, Nat.reduceAdd, Nat.reduceSub, Nat.reduceMul, Nat.reduceEqDiff, Nat.reduceBEq, Nat.reduceBNe, reduceCtorEq, Int.reduceNeg]⟩
          · have hge : j = xs.length := by simp at h'; omega
            subst hge
            rw [List.drop_length, List.foldl_nil] at hg
            replace hg : askA xs (d.rank - 1) = n := hg
            simp only [↓RP, RQ, if_true, if_false, cond_true, cond_false, vcBin, bne, ne_eq, vcRet, resAll, resA, retOf, Int.reduceEq, Int.reduceNe, Int.reduceLT, Int.reduceLE, Int.reduceGT, Int.reduceGE, Int.reduceBEq, Int.reduceBNe, Nat.reduceLT, Nat.reduceLeDiff, Nat.reduceAdd, Nat.reduceSub, Nat.reduceMul, Nat.reduceEqDiff, Nat.reduceBEq, Nat.reduceBNe, reduceCtorEq, Int.reduceNeg, len_map, nn, tn, lt_cast hlt0, hrow, Dem.row]
            first | refine vcCall.same (s104 N xs hn d.rank) ?_ | refine vcQCall.same (s104 N xs hn d.rank) ?_
            simp only [↓RP, RQ, if_true, if_false, cond_true, cond_false, vcBin, bne, ne_eq, vcRet, resAll, resA, retOf, Int.reduceEq, Int.reduceNe, Int.reduceLT, Int.reduceLE, Int.reduceGT, Int.reduceGE, Int.reduceBEq, Int.reduceBNe, Nat.reduceLT, Nat.reduceLeDiff, Nat.reduceAdd, Nat.reduceSub, Nat.reduceMul, Nat.reduceEqDiff, Nat.reduceBEq, Nat.reduceBNe, reduceCtorEq, Int.reduceNeg]
            first | refine vcCall.same (s103 N (xs.map (askN d.rank)) (by simp; omega)) ?_ | refine vcQCall.same (s103 N (xs.map (askN d.rank)) (by simp; omega)) ?_
            simp only [↓RP, RQ, if_true, if_false, cond_true, cond_false, vcBin, bne, ne_eq, vcRet, resAll, resA, retOf, Int.reduceEq, Int.reduceNe, Int.reduceLT, Int.reduceLE, Int.reduceGT, Int.reduceGE, Int.reduceBEq, Int.reduceBNe, Nat.reduceLT, Nat.reduceLeDiff, Nat.reduceAdd, Nat.reduceSub, Nat.reduceMul, Nat.reduceEqDiff, Nat.reduceBEq, Nat.reduceBNe, reduceCtorEq, Int.reduceNeg, hs1]
            first | refine vcCall.same (s98 N _) ?_ | refine vcQCall.same (s98 N _) ?_
            simp only [↓RP, RQ, if_true, if_false, cond_true, cond_false, vcBin, bne, ne_eq, vcRet, resAll, resA, retOf, Int.reduceEq, Int.reduceNe, Int.reduceLT, Int.reduceLE, Int.reduceGT, Int.reduceGE, Int.reduceBEq, Int.reduceBNe, Nat.reduceLT, Nat.reduceLeDiff, Nat.reduceAdd, Nat.reduceSub, Nat.reduceMul, Nat.reduceEqDiff, Nat.reduceBEq, Nat.reduceBNe, reduceCtorEq, Int.reduceNeg]
            first | refine vcIf.of (fun h8 => ?_) (fun h8 => ?_) | refine vcQIf.of (fun h8 => ?_) (fun h8 => ?_)
            · have hsb := amt_b h8
              have hmb := mul_b haa.1 haa.2 hsb.1 hsb.2
              have e1 : IntKind.i64.wrap (a * sumI (xs.map (askN d.rank))) = a * sumI (xs.map (askN d.rank)) := w64 (by omega) (by omega)
              simp only [↓RP, RQ, if_true, if_false, cond_true, cond_false, vcBin, bne, ne_eq, vcRet, resAll, resA, retOf, Int.reduceEq, Int.reduceNe, Int.reduceLT, Int.reduceLE, Int.reduceGT, Int.reduceGE, Int.reduceBEq, Int.reduceBNe, Nat.reduceLT, Nat.reduceLeDiff, Nat.reduceAdd, Nat.reduceSub, Nat.reduceMul, Nat.reduceEqDiff, Nat.reduceBEq, Nat.reduceBNe, reduceCtorEq, Int.reduceNeg, h8]
              first | refine vcIf.of (fun h9 => ?_) (fun h9 => ?_) | refine vcQIf.of (fun h9 => ?_) (fun h9 => ?_)
              · simp only [↓RP, RQ, if_true, if_false, cond_true, cond_false, vcBin, bne, ne_eq, vcRet, resAll, resA, retOf, Int.reduceEq, Int.reduceNe, Int.reduceLT, Int.reduceLE, Int.reduceGT, Int.reduceGE, Int.reduceBEq, Int.reduceBNe, Nat.reduceLT, Nat.reduceLeDiff, Nat.reduceAdd, Nat.reduceSub, Nat.reduceMul, Nat.reduceEqDiff, Nat.reduceBEq, Nat.reduceBNe, reduceCtorEq, Int.reduceNeg, h9, safT, ha, h2, h3, decF h7, h8]
              · have ha0 : ¬ a = 0 := by simpa using h9
                have hcb := ceil_b (b := d.asked) hmb.1 (by omega)
                have e2 : IntKind.i64.wrap (n + ceilI (a * sumI (xs.map (askN d.rank))) d.asked) = safV xs d a := by rw [← hg, w64 (by omega) (by omega)]; rfl
                simp only [↓RP, RQ, if_true, if_false, cond_true, cond_false, vcBin, bne, ne_eq, vcRet, resAll, resA, retOf, Int.reduceEq, Int.reduceNe, Int.reduceLT, Int.reduceLE, Int.reduceGT, Int.reduceGE, Int.reduceBEq, Int.reduceBNe, Nat.reduceLT, Nat.reduceLeDiff, Nat.reduceAdd, Nat.reduceSub, Nat.reduceMul, Nat.reduceEqDiff, Nat.reduceBEq, Nat.reduceBNe, reduceCtorEq, Int.reduceNeg, h9, len_map, nn, tn, lt_cast hlt0, hrow, Dem.row, e1]
                first | refine vcCall.same (s106 N _ d.asked hmb.1 (by omega) (by omega) (by omega)) ?_ | refine vcQCall.same (s106 N _ d.asked hmb.1 (by omega) (by omega) (by omega)) ?_
                simp only [↓RP, RQ, if_true, if_false, cond_true, cond_false, vcBin, bne, ne_eq, vcRet, resAll, resA, retOf, Int.reduceEq, Int.reduceNe, Int.reduceLT, Int.reduceLE, Int.reduceGT, Int.reduceGE, Int.reduceBEq, Int.reduceBNe, Nat.reduceLT, Nat.reduceLeDiff, Nat.reduceAdd, Nat.reduceSub, Nat.reduceMul, Nat.reduceEqDiff, Nat.reduceBEq, Nat.reduceBNe, reduceCtorEq, Int.reduceNeg, e2]
                first | refine vcCall.same (s105 N _) ?_ | refine vcQCall.same (s105 N _) ?_
                simp only [↓RP, RQ, if_true, if_false, cond_true, cond_false, vcBin, bne, ne_eq, vcRet, resAll, resA, retOf, Int.reduceEq, Int.reduceNe, Int.reduceLT, Int.reduceLE, Int.reduceGT, Int.reduceGE, Int.reduceBEq, Int.reduceBNe, Nat.reduceLT, Nat.reduceLeDiff, Nat.reduceAdd, Nat.reduceSub, Nat.reduceMul, Nat.reduceEqDiff, Nat.reduceBEq, Nat.reduceBNe, reduceCtorEq, Int.reduceNeg, h9, safT, ha, h2, h3, decF h7, h8]
            · simp only [↓RP, RQ, if_true, if_false, cond_true, cond_false, vcBin, bne, ne_eq, vcRet, resAll, resA, retOf, Int.reduceEq, Int.reduceNe, Int.reduceLT, Int.reduceLE, Int.reduceGT, Int.reduceGE, Int.reduceBEq, Int.reduceBNe, Nat.reduceLT, Nat.reduceLeDiff, Nat.reduceAdd, Nat.reduceSub, Nat.reduceMul, Nat.reduceEqDiff, Nat.reduceBEq, Nat.reduceBNe, reduceCtorEq, Int.reduceNeg, safT, ha, h2, h3, decF h7, h8]
theorem s43 (N : Nat) (xs : List Dem) (hn : xs.length ≤ 1048576) (hx : ∀ x, x ∈ xs → x.ok) (p : ByteArray) (hp : p.size ≤ 1048576) (a : Int) (hr : -9223372036854775808 ≤ a ∧ a < 9223372036854775808) :
    Runs Try.prog 43 [.ro 3 (xs.map Dem.row), .v (.string p), .v (.int .i64 a)] (emp N) fun r H' => r = .tup [.v (.int .i64 (safT xs p a).1), .v (.int .i64 (safT xs p a).2)] ∧ H' = emp N := by
  have hno : ∀ a b : Value, NoRo (.tup [.v a, .v b]) := fun a b => .tup _ (noros_cons (.v _) (noros_cons (.v _) noros_nil))
  refine Runs.fin0 (Q := fun r H' => r = .tup [.v (.int .i64 (safT xs p a).1), .v (.int .i64 (safT xs p a).2)]) ?_ (fun r H' h => by rw [h]; exact .same _ (.inl rfl)) (.tup _ (norefs_cons (.v _) (norefs_cons (.v _) norefs_nil)))
  refine C43_fn ?_
  unfold C43
  simp only [↓RP, RQ, if_true, if_false, cond_true, cond_false, vcBin, bne, ne_eq, vcRet, resAll, resA, retOf, Int.reduceEq, Int.reduceNe, Int.reduceLT, Int.reduceLE, Int.reduceGT, Int.reduceGE, Int.reduceBEq, Int.reduceBNe, Nat.reduceLT, Nat.reduceLeDiff, Nat.reduceAdd, Nat.reduceSub, Nat.reduceMul, Nat.reduceEqDiff, Nat.reduceBEq, Nat.reduceBNe, reduceCtorEq, Int.reduceNeg]
  first | refine vcCall.same (s107 N xs hn hx a) ?_ | refine vcQCall.same (s107 N xs hn hx a) ?_
  cases ha : areDem xs with
  | false => simp only [↓RP, RQ, if_true, if_false, cond_true, cond_false, vcBin, bne, ne_eq, vcRet, resAll, resA, retOf, Int.reduceEq, Int.reduceNe, Int.reduceLT, Int.reduceLE, Int.reduceGT, Int.reduceGE, Int.reduceBEq, Int.reduceBNe, Nat.reduceLT, Nat.reduceLeDiff, Nat.reduceAdd, Nat.reduceSub, Nat.reduceMul, Nat.reduceEqDiff, Nat.reduceBEq, Nat.reduceBNe, reduceCtorEq, Int.reduceNeg, ha, safT]
  | true => cases h2 : isAmt a with
    | false => simp only [↓RP, RQ, if_true, if_false, cond_true, cond_false, vcBin, bne, ne_eq, vcRet, resAll, resA, retOf, Int.reduceEq, Int.reduceNe, Int.reduceLT, Int.reduceLE, Int.reduceGT, Int.reduceGE, Int.reduceBEq, Int.reduceBNe, Nat.reduceLT, Nat.reduceLeDiff, Nat.reduceAdd, Nat.reduceSub, Nat.reduceMul, Nat.reduceEqDiff, Nat.reduceBEq, Nat.reduceBNe, reduceCtorEq, Int.reduceNeg, ha, h2, safT]
    | true =>
      simp only [↓RP, RQ, if_true, if_false, cond_true, cond_false, vcBin, bne, ne_eq, vcRet, resAll, resA, retOf, Int.reduceEq, Int.reduceNe, Int.reduceLT, Int.reduceLE, Int.reduceGT, Int.reduceGE, Int.reduceBEq, Int.reduceBNe, Nat.reduceLT, Nat.reduceLeDiff, Nat.reduceAdd, Nat.reduceSub, Nat.reduceMul, Nat.reduceEqDiff, Nat.reduceBEq, Nat.reduceBNe, reduceCtorEq, Int.reduceNeg, ha, h2]
      first | refine vcCall.same (s95 N xs hn p) ?_ | refine vcQCall.same (s95 N xs hn p) ?_
      rcases idx_find (Dem.is p) xs 0 with ⟨h3, h4⟩ | ⟨i, d, h3, h4, h5, h6, _⟩
      · simp only [↓RP, RQ, if_true, if_false, cond_true, cond_false, vcBin, bne, ne_eq, vcRet, resAll, resA, retOf, Int.reduceEq, Int.reduceNe, Int.reduceLT, Int.reduceLE, Int.reduceGT, Int.reduceGE, Int.reduceBEq, Int.reduceBNe, Nat.reduceLT, Nat.reduceLeDiff, Nat.reduceAdd, Nat.reduceSub, Nat.reduceMul, Nat.reduceEqDiff, Nat.reduceBEq, Nat.reduceBNe, reduceCtorEq, Int.reduceNeg, h4, safT, ha, h2, h3, fndD]
      · rw [Int.zero_add] at h4
        obtain ⟨hlt0, hrow⟩ := at_some Dem.row h6
        have hneg : ((i : Int) < 0) = False := by simp
        have hall := (areDem_good ha).2
        have hlen := (areDem_good ha).1
        have hgd := good_amt (hall d (List.mem_of_getElem? h6))
        have hda := amt_b hgd.1
        have haa := amt_b h2
        obtain ⟨hs1, hs2, hs3⟩ := sumW_eq (askN_bound (fun x hx => (good_amt (hall x hx)).1) d.rank) (by simp; omega)
        have hS := (ask_fold d.rank d.rank xs 0 (fun x hx => (good_amt (hall x hx)).1) (Int.le_refl _) (by omega)).1
        rw [Int.zero_add, askN_I] at hS
        obtain ⟨hab1, hab2, hab3⟩ := askA_bound (fun x hx => (good_amt (hall x hx)).1) hlen (d.rank - 1)
        have hrk := hgd.2
        simp only [isRk, inR, Bool.and_eq_true, decide_eq_true_eq] at hrk
        simp only [↓RP, RQ, if_true, if_false, cond_true, cond_false, vcBin, bne, ne_eq, vcRet, resAll, resA, retOf, Int.reduceEq, Int.reduceNe, Int.reduceLT, Int.reduceLE, Int.reduceGT, Int.reduceGE, Int.reduceBEq, Int.reduceBNe, Nat.reduceLT, Nat.reduceLeDiff, Nat.reduceAdd, Nat.reduceSub, Nat.reduceMul, Nat.reduceEqDiff, Nat.reduceBEq, Nat.reduceBNe, reduceCtorEq, Int.reduceNeg, h4, h3, fndD, hneg, len_map, nn, tn, lt_cast hlt0, hrow, Dem.row]
        first | refine vcCall.same (Runs.pure (s108 _ xs hn d.rank d.rank) (Fzl.same _) (.v _)) ?_ | refine vcQCall.same (Runs.pure (s108 _ xs hn d.rank d.rank) (Fzl.same _) (.v _)) ?_
        simp only [↓RP, RQ, if_true, if_false, cond_true, cond_false, vcBin, bne, ne_eq, vcRet, resAll, resA, retOf, Int.reduceEq, Int.reduceNe, Int.reduceLT, Int.reduceLE, Int.reduceGT, Int.reduceGE, Int.reduceBEq, Int.reduceBNe, Nat.reduceLT, Nat.reduceLeDiff, Nat.reduceAdd, Nat.reduceSub, Nat.reduceMul, Nat.reduceEqDiff, Nat.reduceBEq, Nat.reduceBNe, reduceCtorEq, Int.reduceNeg, hS]
        first | refine vcIf.dec (fun h7 => ?_) (fun h7 => ?_) | refine vcQIf.dec (fun h7 => ?_) (fun h7 => ?_)
        · simp only [↓RP, RQ, if_true, if_false, cond_true, cond_false, vcBin, bne, ne_eq, vcRet, resAll, resA, retOf, Int.reduceEq, Int.reduceNe, Int.reduceLT, Int.reduceLE, Int.reduceGT, Int.reduceGE, Int.reduceBEq, Int.reduceBNe, Nat.reduceLT, Nat.reduceLeDiff, Nat.reduceAdd, Nat.reduceSub, Nat.reduceMul, Nat.reduceEqDiff, Nat.reduceBEq, Nat.reduceBNe, reduceCtorEq, Int.reduceNeg, h7, safT, ha, h2, h3, decT h7]
        · simp only [↓RP, RQ, if_true, if_false, cond_true, cond_false, vcBin, bne, ne_eq, vcRet, resAll, resA, retOf, Int.reduceEq, Int.reduceNe, Int.reduceLT, Int.reduceLE, Int.reduceGT, Int.reduceGE, Int.reduceBEq, Int.reduceBNe, Nat.reduceLT, Nat.reduceLeDiff, Nat.reduceAdd, Nat.reduceSub, Nat.reduceMul, Nat.reduceEqDiff, Nat.reduceBEq, Nat.reduceBNe, reduceCtorEq, Int.reduceNeg, h7]
          first | refine vcCall.same (Runs.pure (s100 _ _) (Fzl.same _) (.v _)) ?_ | refine vcQCall.same (Runs.pure (s100 _ _) (Fzl.same _) (.v _)) ?_
          simp only [↓RP, RQ, if_true, if_false, cond_true, cond_false, vcBin, bne, ne_eq, vcRet, resAll, resA, retOf, Int.reduceEq, Int.reduceNe, Int.reduceLT, Int.reduceLE, Int.reduceGT, Int.reduceGE, Int.reduceBEq, Int.reduceBNe, Nat.reduceLT, Nat.reduceLeDiff, Nat.reduceAdd, Nat.reduceSub, Nat.reduceMul, Nat.reduceEqDiff, Nat.reduceBEq, Nat.reduceBNe, reduceCtorEq, Int.reduceNeg]
          first | refine vcIf.of (fun h8 => ?_) (fun h8 => ?_) | refine vcQIf.of (fun h8 => ?_) (fun h8 => ?_)
          · have hsb := amt_b h8
            have hmb := mul_b haa.1 haa.2 hsb.1 hsb.2
            have e1 : IntKind.i64.wrap (a * sumI (xs.map (askN d.rank))) = a * sumI (xs.map (askN d.rank)) := w64 (by omega) (by omega)
            simp only [↓RP, RQ, if_true, if_false, cond_true, cond_false, vcBin, bne, ne_eq, vcRet, resAll, resA, retOf, Int.reduceEq, Int.reduceNe, Int.reduceLT, Int.reduceLE, Int.reduceGT, Int.reduceGE, Int.reduceBEq, Int.reduceBNe, Nat.reduceLT, Nat.reduceLeDiff, Nat.reduceAdd, Nat.reduceSub, Nat.reduceMul, Nat.reduceEqDiff, Nat.reduceBEq, Nat.reduceBNe, reduceCtorEq, Int.reduceNeg, h8]
            first | refine vcIf.of (fun h9 => ?_) (fun h9 => ?_) | refine vcQIf.of (fun h9 => ?_) (fun h9 => ?_)
            · simp only [↓RP, RQ, if_true, if_false, cond_true, cond_false, vcBin, bne, ne_eq, vcRet, resAll, resA, retOf, Int.reduceEq, Int.reduceNe, Int.reduceLT, Int.reduceLE, Int.reduceGT, Int.reduceGE, Int.reduceBEq, Int.reduceBNe, Nat.reduceLT, Nat.reduceLeDiff, Nat.reduceAdd, Nat.reduceSub, Nat.reduceMul, Nat.reduceEqDiff, Nat.reduceBEq, Nat.reduceBNe, reduceCtorEq, Int.reduceNeg, h9, safT, ha, h2, h3, decF h7, h8]
            · have ha0 : ¬ a = 0 := by simpa using h9
              have hcb := ceil_b (b := d.asked) hmb.1 (by omega)
              have e0 : IntKind.i64.wrap (d.rank - 1) = d.rank - 1 := w64 (by omega) (by omega)
              have e3 : IntKind.i64.wrap (a * sumI (xs.map (askN d.rank)) + d.asked) = a * sumI (xs.map (askN d.rank)) + d.asked := w64 (by omega) (by omega)
              have e4 : IntKind.i64.wrap (a * sumI (xs.map (askN d.rank)) + d.asked - 1) = a * sumI (xs.map (askN d.rank)) + d.asked - 1 := w64 (by omega) (by omega)
              have e5 : IntKind.i64.wrap (Int.tdiv (a * sumI (xs.map (askN d.rank)) + d.asked - 1) d.asked) = ceilI (a * sumI (xs.map (askN d.rank))) d.asked := by
                rw [Int.tdiv_eq_ediv_of_nonneg (by omega)]
                show IntKind.i64.wrap (ceilI _ _) = _
                exact w64 (by omega) (by omega)
              have e6 : (d.asked = 0) = False := by simp; omega
              have e2 : IntKind.i64.wrap (askA xs (d.rank - 1) + ceilI (a * sumI (xs.map (askN d.rank))) d.asked) = safV xs d a := by rw [w64 (by omega) (by omega)]; rfl
              simp only [↓RP, RQ, if_true, if_false, cond_true, cond_false, vcBin, bne, ne_eq, vcRet, resAll, resA, retOf, Int.reduceEq, Int.reduceNe, Int.reduceLT, Int.reduceLE, Int.reduceGT, Int.reduceGE, Int.reduceBEq, Int.reduceBNe, Nat.reduceLT, Nat.reduceLeDiff, Nat.reduceAdd, Nat.reduceSub, Nat.reduceMul, Nat.reduceEqDiff, Nat.reduceBEq, Nat.reduceBNe, reduceCtorEq, Int.reduceNeg, h9, e0]
              first | refine vcCall.same (Runs.pure (s108 _ xs hn 1 (d.rank - 1)) (Fzl.same _) (.v _)) ?_ | refine vcQCall.same (Runs.pure (s108 _ xs hn 1 (d.rank - 1)) (Fzl.same _) (.v _)) ?_
              simp only [↓RP, RQ, if_true, if_false, cond_true, cond_false, vcBin, bne, ne_eq, vcRet, resAll, resA, retOf, Int.reduceEq, Int.reduceNe, Int.reduceLT, Int.reduceLE, Int.reduceGT, Int.reduceGE, Int.reduceBEq, Int.reduceBNe, Nat.reduceLT, Nat.reduceLeDiff, Nat.reduceAdd, Nat.reduceSub, Nat.reduceMul, Nat.reduceEqDiff, Nat.reduceBEq, Nat.reduceBNe, reduceCtorEq, Int.reduceNeg, hab1, e1, e3, e4, e5, e6, e2]
              first | refine vcCall.same (Runs.pure (s109 _ _) (Fzl.same _) (hno _ _)) ?_ | refine vcQCall.same (Runs.pure (s109 _ _) (Fzl.same _) (hno _ _)) ?_
              simp only [↓RP, RQ, if_true, if_false, cond_true, cond_false, vcBin, bne, ne_eq, vcRet, resAll, resA, retOf, Int.reduceEq, Int.reduceNe, Int.reduceLT, Int.reduceLE, Int.reduceGT, Int.reduceGE, Int.reduceBEq, Int.reduceBNe, Nat.reduceLT, Nat.reduceLeDiff, Nat.reduceAdd, Nat.reduceSub, Nat.reduceMul, Nat.reduceEqDiff, Nat.reduceBEq, Nat.reduceBNe, reduceCtorEq, Int.reduceNeg, h9, safT, ha, h2, h3, decF h7, h8]
          · simp only [↓RP, RQ, if_true, if_false, cond_true, cond_false, vcBin, bne, ne_eq, vcRet, resAll, resA, retOf, Int.reduceEq, Int.reduceNe, Int.reduceLT, Int.reduceLE, Int.reduceGT, Int.reduceGE, Int.reduceBEq, Int.reduceBNe, Nat.reduceLT, Nat.reduceLeDiff, Nat.reduceAdd, Nat.reduceSub, Nat.reduceMul, Nat.reduceEqDiff, Nat.reduceBEq, Nat.reduceBNe, reduceCtorEq, Int.reduceNeg, safT, ha, h2, h3, decF h7, h8]
theorem lawFnExactSafeFund (N : Nat) {a0 : AV} (h0 : LeafOk (.sl [.str, .int .i64, .int .i64]) a0) {a1 : AV} (h1 : LeafOk (.str) a1) {a2 : AV} (h2 : LeafOk (.int .i64) a2) : Runs Try.prog 8 [a0, a1, a2] (emp N) fun r H' => r = .v (.bool true) ∧ H' = emp N := by
  obtain ⟨xs, rfl, hm_xs, hw_xs⟩ := rows_of Dem.of h0
  obtain ⟨p, rfl, hs0_p⟩ := leaf_str h1
  obtain ⟨a, rfl, hw0_a⟩ := leaf_int h2
  have hb_a := wf_i64 hw0_a
  refine Runs.fin0 (Q := fun r H' => r = .v (.bool true)) ?_ (fun r H' h => by rw [h]; exact .same _ (.inl rfl)) (.v _)
  refine C8_fn ?_
  unfold C8
  simp only [↓RP, RQ, if_true, if_false, cond_true, cond_false, vcBin, bne, ne_eq, vcRet, resAll, resA, retOf, Int.reduceEq, Int.reduceNe, Int.reduceLT, Int.reduceLE, Int.reduceGT, Int.reduceGE, Int.reduceBEq, Int.reduceBNe, Nat.reduceLT, Nat.reduceLeDiff, Nat.reduceAdd, Nat.reduceSub, Nat.reduceMul, Nat.reduceEqDiff, Nat.reduceBEq, Nat.reduceBNe, reduceCtorEq, Int.reduceNeg, len_map]
  first | refine vcIf.dec (fun q_p => ?_) (fun q_p => ?_) | refine vcQIf.dec (fun q_p => ?_) (fun q_p => ?_)
  · simp only [↓RP, RQ, if_true, if_false, cond_true, cond_false, vcBin, bne, ne_eq, vcRet, resAll, resA, retOf, Int.reduceEq, Int.reduceNe, Int.reduceLT, Int.reduceLE, Int.reduceGT, Int.reduceGE, Int.reduceBEq, Int.reduceBNe, Nat.reduceLT, Nat.reduceLeDiff, Nat.reduceAdd, Nat.reduceSub, Nat.reduceMul, Nat.reduceEqDiff, Nat.reduceBEq, Nat.reduceBNe, reduceCtorEq, Int.reduceNeg, q_p]
  · have hn_p : p.size ≤ 1048576 := by simp at q_p; omega
    simp only [↓RP, RQ, if_true, if_false, cond_true, cond_false, vcBin, bne, ne_eq, vcRet, resAll, resA, retOf, Int.reduceEq, Int.reduceNe, Int.reduceLT, Int.reduceLE, Int.reduceGT, Int.reduceGE, Int.reduceBEq, Int.reduceBNe, Nat.reduceLT, Nat.reduceLeDiff, Nat.reduceAdd, Nat.reduceSub, Nat.reduceMul, Nat.reduceEqDiff, Nat.reduceBEq, Nat.reduceBNe, reduceCtorEq, Int.reduceNeg, len_map, q_p]
    first | refine vcCall.same (s33 N xs _ hm_xs) ?_ | refine vcQCall.same (s33 N xs _ hm_xs) ?_
    simp only [↓RP, RQ, if_true, if_false, cond_true, cond_false, vcBin, bne, ne_eq, vcRet, resAll, resA, retOf, Int.reduceEq, Int.reduceNe, Int.reduceLT, Int.reduceLE, Int.reduceGT, Int.reduceGE, Int.reduceBEq, Int.reduceBNe, Nat.reduceLT, Nat.reduceLeDiff, Nat.reduceAdd, Nat.reduceSub, Nat.reduceMul, Nat.reduceEqDiff, Nat.reduceBEq, Nat.reduceBNe, reduceCtorEq, Int.reduceNeg, len_map, q_p]
    first | refine vcIf.dec (fun h_xs => ?_) (fun h_xs => ?_) | refine vcQIf.dec (fun h_xs => ?_) (fun h_xs => ?_)
    · simp only [↓RP, RQ, if_true, if_false, cond_true, cond_false, vcBin, bne, ne_eq, vcRet, resAll, resA, retOf, Int.reduceEq, Int.reduceNe, Int.reduceLT, Int.reduceLE, Int.reduceGT, Int.reduceGE, Int.reduceBEq, Int.reduceBNe, Nat.reduceLT, Nat.reduceLeDiff, Nat.reduceAdd, Nat.reduceSub, Nat.reduceMul, Nat.reduceEqDiff, Nat.reduceBEq, Nat.reduceBNe, reduceCtorEq, Int.reduceNeg, q_p, h_xs]
    · obtain ⟨hn_xs, hx_xs, hl_xs⟩ := szS_fit Dem.fit hw_xs hm_xs (by decide) (by decide) (Int.not_lt.1 h_xs)
      simp only [↓RP, RQ, if_true, if_false, cond_true, cond_false, vcBin, bne, ne_eq, vcRet, resAll, resA, retOf, Int.reduceEq, Int.reduceNe, Int.reduceLT, Int.reduceLE, Int.reduceGT, Int.reduceGE, Int.reduceBEq, Int.reduceBNe, Nat.reduceLT, Nat.reduceLeDiff, Nat.reduceAdd, Nat.reduceSub, Nat.reduceMul, Nat.reduceEqDiff, Nat.reduceBEq, Nat.reduceBNe, reduceCtorEq, Int.reduceNeg, len_map, q_p, h_xs]
      first | refine vcCall.same (s35 N xs hn_xs) ?_ | refine vcQCall.same (s35 N xs hn_xs) ?_
      simp only [↓RP, RQ, if_true, if_false, cond_true, cond_false, vcBin, bne, ne_eq, vcRet, resAll, resA, retOf, Int.reduceEq, Int.reduceNe, Int.reduceLT, Int.reduceLE, Int.reduceGT, Int.reduceGE, Int.reduceBEq, Int.reduceBNe, Nat.reduceLT, Nat.reduceLeDiff, Nat.reduceAdd, Nat.reduceSub, Nat.reduceMul, Nat.reduceEqDiff, Nat.reduceBEq, Nat.reduceBNe, reduceCtorEq, Int.reduceNeg, len_map, q_p, h_xs]
      first | refine vcCall.same (s42 N xs hn_xs hx_xs p hn_p a hb_a) ?_ | refine vcQCall.same (s42 N xs hn_xs hx_xs p hn_p a hb_a) ?_
      simp only [↓RP, RQ, if_true, if_false, cond_true, cond_false, vcBin, bne, ne_eq, vcRet, resAll, resA, retOf, Int.reduceEq, Int.reduceNe, Int.reduceLT, Int.reduceLE, Int.reduceGT, Int.reduceGE, Int.reduceBEq, Int.reduceBNe, Nat.reduceLT, Nat.reduceLeDiff, Nat.reduceAdd, Nat.reduceSub, Nat.reduceMul, Nat.reduceEqDiff, Nat.reduceBEq, Nat.reduceBNe, reduceCtorEq, Int.reduceNeg, len_map, q_p, h_xs]
      first | refine vcCall.same (s35 N xs hn_xs) ?_ | refine vcQCall.same (s35 N xs hn_xs) ?_
      simp only [↓RP, RQ, if_true, if_false, cond_true, cond_false, vcBin, bne, ne_eq, vcRet, resAll, resA, retOf, Int.reduceEq, Int.reduceNe, Int.reduceLT, Int.reduceLE, Int.reduceGT, Int.reduceGE, Int.reduceBEq, Int.reduceBNe, Nat.reduceLT, Nat.reduceLeDiff, Nat.reduceAdd, Nat.reduceSub, Nat.reduceMul, Nat.reduceEqDiff, Nat.reduceBEq, Nat.reduceBNe, reduceCtorEq, Int.reduceNeg, len_map, q_p, h_xs]
      first | refine vcCall.same (s43 N xs hn_xs hx_xs p hn_p a hb_a) ?_ | refine vcQCall.same (s43 N xs hn_xs hx_xs p hn_p a hb_a) ?_
      simp only [↓RP, RQ, if_true, if_false, cond_true, cond_false, vcBin, bne, ne_eq, vcRet, resAll, resA, retOf, Int.reduceEq, Int.reduceNe, Int.reduceLT, Int.reduceLE, Int.reduceGT, Int.reduceGE, Int.reduceBEq, Int.reduceBNe, Nat.reduceLT, Nat.reduceLeDiff, Nat.reduceAdd, Nat.reduceSub, Nat.reduceMul, Nat.reduceEqDiff, Nat.reduceBEq, Nat.reduceBNe, reduceCtorEq, Int.reduceNeg, int_refl, str_refl, boo_refl, len_map, q_p, h_xs]
      first | refine vcCall.same (s35 N xs hn_xs) ?_ | refine vcQCall.same (s35 N xs hn_xs) ?_
      simp only [↓RP, RQ, if_true, if_false, cond_true, cond_false, vcBin, bne, ne_eq, vcRet, resAll, resA, retOf, Int.reduceEq, Int.reduceNe, Int.reduceLT, Int.reduceLE, Int.reduceGT, Int.reduceGE, Int.reduceBEq, Int.reduceBNe, Nat.reduceLT, Nat.reduceLeDiff, Nat.reduceAdd, Nat.reduceSub, Nat.reduceMul, Nat.reduceEqDiff, Nat.reduceBEq, Nat.reduceBNe, reduceCtorEq, Int.reduceNeg, len_map, q_p, h_xs]
      first | refine vcCall.same (s37 N xs hn_xs) ?_ | refine vcQCall.same (s37 N xs hn_xs) ?_
      simp only [↓RP, RQ, if_true, if_false, cond_true, cond_false, vcBin, bne, ne_eq, vcRet, resAll, resA, retOf, Int.reduceEq, Int.reduceNe, Int.reduceLT, Int.reduceLE, Int.reduceGT, Int.reduceGE, Int.reduceBEq, Int.reduceBNe, Nat.reduceLT, Nat.reduceLeDiff, Nat.reduceAdd, Nat.reduceSub, Nat.reduceMul, Nat.reduceEqDiff, Nat.reduceBEq, Nat.reduceBNe, reduceCtorEq, Int.reduceNeg, len_map, q_p, h_xs]
end Go.Proofs.Ytbgnlnlgjmipfaa
