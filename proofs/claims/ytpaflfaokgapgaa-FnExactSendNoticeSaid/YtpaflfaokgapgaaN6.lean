/- Contracts about the diary with a further notice. -/
import Derived.Test.YtpaflfaokgapgaaK3
import Derived.Test.YtpaflfaokgapgaaN4
set_option linter.unusedVariables false
set_option linter.unusedSimpArgs false
namespace Go.Proofs.Ytpaflfaokgapgaa
open Go.Abs
def Ntc.new (p : ByteArray) (day days : Int) : Ntc := ⟨p, day, days, -1⟩
def upto (day : Int) (x : Ntc) : Bool := decide (x.sent ≤ day)
def cutN (day : Int) : List Ntc → Nat
  | [] => 0
  | x :: xs => bif upto day x then cutN day xs + 1 else 0
theorem cutN_le (day : Int) : ∀ xs : List Ntc, cutN day xs ≤ xs.length
  | [] => Nat.le_refl _
  | x :: xs => by
    rw [cutN]
    have := cutN_le day xs
    cases upto day x <;> simp <;> omega
theorem rise_ge : ∀ (xs : List Ntc) (p : Ntc), rise Ntc.le (some p) xs = true → ∀ x, x ∈ xs → p.sent ≤ x.sent
  | [], _, _, x, h => by cases h
  | y :: ys, p, hr, x, h => by
    rw [rise, Bool.and_eq_true] at hr
    have h1 : p.sent ≤ y.sent := of_decide_eq_true hr.1
    rcases List.mem_cons.1 h with rfl | h
    · exact h1
    · exact Int.le_trans h1 (rise_ge ys y hr.2 x h)
theorem cut_filter (day : Int) : ∀ (xs : List Ntc) (o : Option Ntc), rise Ntc.le o xs = true → (xs.filter (upto day)).length = cutN day xs
  | [], _, _ => rfl
  | x :: xs, o, hr => by
    have hr' : rise Ntc.le (some x) xs = true := by
      cases o with
      | none => exact hr
      | some p => rw [rise, Bool.and_eq_true] at hr; exact hr.2
    rw [cutN, List.filter_cons]
    cases h : upto day x with
    | true => rw [if_pos rfl, cond_true, List.length_cons, cut_filter day xs (some x) hr']
    | false =>
      rw [if_neg (by simp), cond_false]
      have : xs.filter (upto day) = [] := by
        rw [List.filter_eq_nil_iff]
        intro y hy hu
        have h1 := rise_ge xs x hr' y hy
        have h2 : ¬ x.sent ≤ day := of_decide_eq_false h
        have h3 : y.sent ≤ day := of_decide_eq_true hu
        omega
      rw [this]; rfl
theorem isDia_rise {xs : List Ntc} (h : isDia xs = true) : rise Ntc.le none xs = true := by
  simp only [isDia, chk_eq, Bool.and_eq_true] at h
  exact h.1.2
def sndL (xs : List Ntc) (p : ByteArray) (day days : Int) : List Ntc := (xs.take (cutN day xs) ++ [Ntc.new p day days]) ++ xs.drop (cutN day xs)
def sndT (xs : List Ntc) (p : ByteArray) (day days : Int) : List Ntc × Int := bif isDia xs then (bif okDay day then (bif isDia (sndL xs p day days) then (sndL xs p day days, 0) else ([], 5)) else ([], 2)) else ([], 1)
theorem sndL_len (xs : List Ntc) (p : ByteArray) (day days : Int) : (sndL xs p day days).length = xs.length + 1 := by
  have := cutN_le day xs
  simp [sndL]; omega
theorem sndT_len (xs : List Ntc) (p : ByteArray) (day days : Int) (h : xs.length ≤ 1048576) : (sndT xs p day days).1.length ≤ 1048576 := by
  unfold sndT
  cases h1 : isDia xs
  · simp
  · have := (isDia_good h1).1
    cases okDay day <;> cases isDia (sndL xs p day days) <;> simp [sndL_len]; omega
theorem sndT_emp (xs : List Ntc) (p : ByteArray) (day days : Int) : (sndT xs p day days).2 ≠ 0 → (sndT xs p day days).1 = [] := by
  unfold sndT
  cases isDia xs <;> cases okDay day <;> cases isDia (sndL xs p day days) <;> simp
theorem rows_take (xs : List Ntc) (k : Nat) : ((xs.map Ntc.row).take k).drop 0 = (xs.take k).map Ntc.row := by rw [List.drop_zero, List.map_take]
theorem rows_drop (xs : List Ntc) (k : Nat) : ((xs.map Ntc.row).take xs.length).drop k = (xs.drop k).map Ntc.row := by rw [List.take_of_length_le (by simp), List.map_drop]
theorem sndL_rows (xs : List Ntc) (p : ByteArray) (day days : Int) : ((xs.take (cutN day xs)).map Ntc.row ++ [[AV.v (.string p), .v (.int .i64 day), .v (.int .i64 days), .v (.int .i64 (-1))]]) ++ (xs.drop (cutN day xs)).map Ntc.row = (sndL xs p day days).map Ntc.row := by
  simp [sndL, Ntc.new, Ntc.row]
theorem g37 (N : Nat) (xs : List Ntc) (hn : xs.length ≤ 1048576) (hx : ∀ x, x ∈ xs → x.ok) (p : ByteArray) (hp : p.size ≤ 1048576) (day : Int) (hday : -9223372036854775808 ≤ day ∧ day < 9223372036854775808) (days : Int) (hdays : -9223372036854775808 ≤ days ∧ days < 9223372036854775808) :
    Runs Try.prog 37 [.ro 4 (xs.map Ntc.row), .v (.string p), .v (.int .i64 day), .v (.int .i64 days)] (emp N) (Got 4 ((sndT xs p day days).1.map Ntc.row) (sndT xs p day days).2) := by
  have hm : xs.length ≤ maxLen := by have : maxLen = 9223372036854775807 := rfl; omega
  refine C37_fn ?_
  unfold C37
  simp only [↓RP, RQ, if_true, if_false, cond_true, cond_false, vcBin, bne, ne_eq, vcRet, resAll, resA, retOf, Int.reduceEq, Int.reduceNe, Int.reduceLT, Int.reduceLE, Int.reduceGT, Int.reduceGE, Int.reduceBEq, Int.reduceBNe, Nat.reduceLT, Nat.reduceLeDiff, Nat.reduceAdd, Nat.reduceSub, Nat.reduceMul, Nat.reduceEqDiff, Nat.reduceBEq, Nat.reduceBNe, reduceCtorEq, Int.reduceNeg]
  first | refine vcCall.same (s16 N xs hn hx) ?_ | refine vcQCall.same (s16 N xs hn hx) ?_
  simp only [↓RP, RQ, if_true, if_false, cond_true, cond_false, vcBin, bne, ne_eq, vcRet, resAll, resA, retOf, Int.reduceEq, Int.reduceNe, Int.reduceLT, Int.reduceLE, Int.reduceGT, Int.reduceGE, Int.reduceBEq, Int.reduceBNe, Nat.reduceLT, Nat.reduceLeDiff, Nat.reduceAdd, Nat.reduceSub, Nat.reduceMul, Nat.reduceEqDiff, Nat.reduceBEq, Nat.reduceBNe, reduceCtorEq, Int.reduceNeg]
  first | refine vcIf.of (fun h1 => ?_) (fun h1 => ?_) | refine vcQIf.of (fun h1 => ?_) (fun h1 => ?_)
  · simp only [↓RP, RQ, if_true, if_false, cond_true, cond_false, vcBin, bne, ne_eq, vcRet, resAll, resA, retOf, Int.reduceEq, Int.reduceNe, Int.reduceLT, Int.reduceLE, Int.reduceGT, Int.reduceGE, Int.reduceBEq, Int.reduceBNe, Nat.reduceLT, Nat.reduceLeDiff, Nat.reduceAdd, Nat.reduceSub, Nat.reduceMul, Nat.reduceEqDiff, Nat.reduceBEq, Nat.reduceBNe, reduceCtorEq, Int.reduceNeg, h1]
    first | refine vcCall.same (s72 N _) ?_ | refine vcQCall.same (s72 N _) ?_
    simp only [↓RP, RQ, if_true, if_false, cond_true, cond_false, vcBin, bne, ne_eq, vcRet, resAll, resA, retOf, Int.reduceEq, Int.reduceNe, Int.reduceLT, Int.reduceLE, Int.reduceGT, Int.reduceGE, Int.reduceBEq, Int.reduceBNe, Nat.reduceLT, Nat.reduceLeDiff, Nat.reduceAdd, Nat.reduceSub, Nat.reduceMul, Nat.reduceEqDiff, Nat.reduceBEq, Nat.reduceBNe, reduceCtorEq, Int.reduceNeg]
    first | refine vcIf.of (fun h3 => ?_) (fun h3 => ?_) | refine vcQIf.of (fun h3 => ?_) (fun h3 => ?_)
    · have h3' : okDay day = true := h3
      have hR : sndT xs p day days = bif isDia (sndL xs p day days) then (sndL xs p day days, 0) else ([], 5) := by rw [sndT, h1, h3']; rfl
      have hkx := cutN_le day xs
      have hLl := sndL_len xs p day days
      have hlr := sndL_rows xs p day days
      have hLo : ∀ x, x ∈ sndL xs p day days → x.ok := fun x h => by
        rcases List.mem_append.1 h with h | h
        · rcases List.mem_append.1 h with h | h
          · exact hx x (List.mem_of_mem_take h)
          · rw [List.mem_singleton.1 h]; exact ⟨hp, hday, hdays, by show -9223372036854775808 ≤ (-1 : Int); decide, by show (-1 : Int) < 9223372036854775808; decide⟩
        · exact hx x (List.mem_of_mem_drop h)
      rw [hR]
      simp only [↓RP, RQ, if_true, if_false, cond_true, cond_false, vcBin, bne, ne_eq, vcRet, resAll, resA, retOf, Int.reduceEq, Int.reduceNe, Int.reduceLT, Int.reduceLE, Int.reduceGT, Int.reduceGE, Int.reduceBEq, Int.reduceBNe, Nat.reduceLT, Nat.reduceLeDiff, Nat.reduceAdd, Nat.reduceSub, Nat.reduceMul, Nat.reduceEqDiff, Nat.reduceBEq, Nat.reduceBNe, reduceCtorEq, Int.reduceNeg, h1, h3]
      refine vcLoop.st (σ := Nat) 0 (fun i => i ≤ xs.length ∧ cutN day xs = i + cutN day (xs.drop i)) (fun i => xs.length - i) (fun _ => hl N [])
        (fun i => [.ro 4 (xs.map Ntc.row), .v (.string p), .v (.int .i64 day), .v (.int .i64 days), .any, .any, .any, .any, .any, .any, .v (.int .i64 i), .any, .any, .any, .any, .any, .any, .any, .any, .any, .any, .any, .any, .any, .any, .any, .any, .any, .any, .any, .any, .any, .any, .any, .any, .any, .any, .any, .any, .any, .any, .any, .any, .any, .any, .any, .any, .any, .any, .any, .any, .any]) ⟨Nat.zero_le _, by simp⟩ (Dr.refl _) (by simp only [↓RP, RQ, if_true, if_false, cond_true, cond_false, vcBin, bne, ne_eq, vcRet, resAll, resA, retOf, Int.reduceEq, Int.reduceNe, Int.reduceLT, Int.reduceLE, Int.reduceGT, Int.reduceGE, Int.reduceBEq, Int.reduceBNe, Nat.reduceLT, Nat.reduceLeDiff, Nat.reduceAdd, Nat.reduceSub, Nat.reduceMul, Nat.reduceEqDiff, Nat.reduceBEq, Nat.reduceBNe, reduceCtorEq, Int.reduceNeg]) ?_
      rintro i ⟨hi, hg⟩
      simp only [↓RP, RQ, if_true, if_false, cond_true, cond_false, vcBin, bne, ne_eq, vcRet, resAll, resA, retOf, Int.reduceEq, Int.reduceNe, Int.reduceLT, Int.reduceLE, Int.reduceGT, Int.reduceGE, Int.reduceBEq, Int.reduceBNe, Nat.reduceLT, Nat.reduceLeDiff, Nat.reduceAdd, Nat.reduceSub, Nat.reduceMul, Nat.reduceEqDiff, Nat.reduceBEq, Nat.reduceBNe, reduceCtorEq, Int.reduceNeg, len_map]
      first | refine vcIf.dec (fun h4 => ?_) (fun h4 => ?_) | refine vcQIf.dec (fun h4 => ?_) (fun h4 => ?_)
      · have hlt : i < xs.length := by simpa using h4
        obtain ⟨x, hx0, hx1, hd⟩ := at_i Ntc.row xs hlt
        rw [hd, cutN] at hg
        simp only [↓RP, RQ, if_true, if_false, cond_true, cond_false, vcBin, bne, ne_eq, vcRet, resAll, resA, retOf, Int.reduceEq, Int.reduceNe, Int.reduceLT, Int.reduceLE, Int.reduceGT, Int.reduceGE, Int.reduceBEq, Int.reduceBNe, Nat.reduceLT, Nat.reduceLeDiff, Nat.reduceAdd, Nat.reduceSub, Nat.reduceMul, Nat.reduceEqDiff, Nat.reduceBEq, Nat.reduceBNe, reduceCtorEq, Int.reduceNeg, h4, len_map, nn, tn, lt_cast hlt, hx1, Ntc.row]
        first | refine vcIf.dec (fun h5 => ?_) (fun h5 => ?_) | refine vcQIf.dec (fun h5 => ?_) (fun h5 => ?_)
        · have hu : upto day x = true := decide_eq_true h5
          rw [hu, cond_true] at hg
          simp only [↓RP, RQ, if_true, if_false, cond_true, cond_false, vcBin, bne, ne_eq, vcRet, resAll, resA, retOf, Int.reduceEq, Int.reduceNe, Int.reduceLT, Int.reduceLE, Int.reduceGT, Int.reduceGE, Int.reduceBEq, Int.reduceBNe, Nat.reduceLT, Nat.reduceLeDiff, Nat.reduceAdd, Nat.reduceSub, Nat.reduceMul, Nat.reduceEqDiff, Nat.reduceBEq, Nat.reduceBNe, reduceCtorEq, Int.reduceNeg, h4, h5, w_succ hlt hm]
          exact ⟨i + 1, by omega, ⟨hlt, by omega⟩, by simp only [↓RP, RQ, if_true, if_false, cond_true, cond_false, vcBin, bne, ne_eq, vcRet, resAll, resA, retOf, Int.reduceEq, Int.reduceNe, Int.reduceLT, Int.reduceLE, Int.reduceGT, Int.reduceGE, Int.reduceBEq, Int.reduceBNe, Nat.reduceLT, Nat.reduceLeDiff, Nat.reduceAdd, Nat.reduceSub, Nat.reduceMul, Nat.reduceEqDiff, Nat.reduceBEq, Nat.reduceBNe, reduceCtorEq, Int.reduceNeg]⟩
        · have hu : upto day x = false := decide_eq_false h5
          rw [hu, cond_false, Nat.add_zero] at hg
          have hik : i = cutN day xs := hg.symm
          rw [← hik] at hlr
          have hk1 : ((i : Int) ≤ (xs.length : Int)) = True := by simp; omega
          have hk2 : (i ≤ xs.length) = True := by simp; omega
          have ht1 : ((xs.take i).map Ntc.row).length = i := by simp; omega
          have ht2 : ((xs.drop i).map Ntc.row).length = xs.length - i := by simp
          have h8a : (i * 40 ≤ 140737488355328) = True := by simp; omega
          have h8b : ((i + 1) * 40 ≤ 140737488355328) = True := by simp; omega
          have h8c : ((i + (1 + (xs.length - i))) * 40 ≤ 140737488355328) = True := by simp; omega
          have h8d : ((xs.length + 1) * 40 ≤ 140737488355328) = True := by simp; omega
          have hn2 : i + (1 + (xs.length - i)) = xs.length + 1 := by omega
          have htk : ((xs.take i).map Ntc.row ++ [[AV.v (.string p), .v (.int .i64 day), .v (.int .i64 days), .v (.int .i64 (-1))]]).take (i + 1) = (xs.take i).map Ntc.row ++ [[AV.v (.string p), .v (.int .i64 day), .v (.int .i64 days), .v (.int .i64 (-1))]] := List.take_of_length_le (by rw [List.length_append, ht1]; simp)
          have htl : ((xs.take i).map Ntc.row ++ [[AV.v (.string p), .v (.int .i64 day), .v (.int .i64 days), .v (.int .i64 (-1))]]).length = i + 1 := by rw [List.length_append, ht1]; rfl
          have hti : ((xs.take i).map Ntc.row).take i = (xs.take i).map Ntc.row := List.take_of_length_le (by rw [ht1]; exact Nat.le_refl _)
          simp only [↓RP, RQ, if_true, if_false, cond_true, cond_false, vcBin, bne, ne_eq, vcRet, resAll, resA, retOf, Int.reduceEq, Int.reduceNe, Int.reduceLT, Int.reduceLE, Int.reduceGT, Int.reduceGE, Int.reduceBEq, Int.reduceBNe, Nat.reduceLT, Nat.reduceLeDiff, Nat.reduceAdd, Nat.reduceSub, Nat.reduceMul, Nat.reduceEqDiff, Nat.reduceBEq, Nat.reduceBNe, reduceCtorEq, Int.reduceNeg, h4, h5]
          apply vcLoud.of (fun _ => True)
          case h1 => intro G hG; simp only [↓RP, RQ, if_true, if_false, cond_true, cond_false, vcBin, bne, ne_eq, vcRet, resAll, resA, retOf, Int.reduceEq, Int.reduceNe, Int.reduceLT, Int.reduceLE, Int.reduceGT, Int.reduceGE, Int.reduceBEq, Int.reduceBNe, Nat.reduceLT, Nat.reduceLeDiff, Nat.reduceAdd, Nat.reduceSub, Nat.reduceMul, Nat.reduceEqDiff, Nat.reduceBEq, Nat.reduceBNe, reduceCtorEq, Int.reduceNeg, bound, nn, tn, hk1, hk2, len_map, rows_take, rows_drop, Int.le_refl, Int.toNat_zero, fillA]; rfl
          simp (config := { maxSteps := 5000000 }) only [↓RP, RQ, if_true, if_false, cond_true, cond_false, vcBin, bne, ne_eq, vcRet, resAll, resA, retOf, Int.reduceEq, Int.reduceNe, Int.reduceLT, Int.reduceLE, Int.reduceGT, Int.reduceGE, Int.reduceBEq, Int.reduceBNe, Nat.reduceLT, Nat.reduceLeDiff, Nat.reduceAdd, Nat.reduceSub, Nat.reduceMul, Nat.reduceEqDiff, Nat.reduceBEq, Nat.reduceBNe, reduceCtorEq, Int.reduceNeg, vcT_leaf, vcT_alt, vcT_step, elems, nn, tn, ht1, ht2, h8a, h8b, h8c, h8d, hn2, htk, htl, hti, hlr, List.nil_append, true_le, Nat.zero_le]
          and_intros
          all_goals
            refine vcCall.same (Runs.pure (s16 _ (sndL xs p day days) (by rw [hLl]; have := (isDia_good h1).1; omega) hLo) (.cons (Fz.all (by simp only [↓RP, RQ, if_true, if_false, cond_true, cond_false, vcBin, bne, ne_eq, vcRet, resAll, resA, retOf, Int.reduceEq, Int.reduceNe, Int.reduceLT, Int.reduceLE, Int.reduceGT, Int.reduceGE, Int.reduceBEq, Int.reduceBNe, Nat.reduceLT, Nat.reduceLeDiff, Nat.reduceAdd, Nat.reduceSub, Nat.reduceMul, Nat.reduceEqDiff, Nat.reduceBEq, Nat.reduceBNe, reduceCtorEq, Int.reduceNeg]) (by rw [len_map, hLl])) .nil) (.v _)) ?_
            simp only [↓RP, RQ, if_true, if_false, cond_true, cond_false, vcBin, bne, ne_eq, vcRet, resAll, resA, retOf, Int.reduceEq, Int.reduceNe, Int.reduceLT, Int.reduceLE, Int.reduceGT, Int.reduceGE, Int.reduceBEq, Int.reduceBNe, Nat.reduceLT, Nat.reduceLeDiff, Nat.reduceAdd, Nat.reduceSub, Nat.reduceMul, Nat.reduceEqDiff, Nat.reduceBEq, Nat.reduceBNe, reduceCtorEq, Int.reduceNeg]
            first | refine vcIf.of (fun h6 => ?_) (fun h6 => ?_) | refine vcQIf.of (fun h6 => ?_) (fun h6 => ?_)
            · rw [h6, cond_true]
              simp only [↓RP, RQ, if_true, if_false, cond_true, cond_false, vcBin, bne, ne_eq, vcRet, resAll, resA, retOf, Int.reduceEq, Int.reduceNe, Int.reduceLT, Int.reduceLE, Int.reduceGT, Int.reduceGE, Int.reduceBEq, Int.reduceBNe, Nat.reduceLT, Nat.reduceLeDiff, Nat.reduceAdd, Nat.reduceSub, Nat.reduceMul, Nat.reduceEqDiff, Nat.reduceBEq, Nat.reduceBNe, reduceCtorEq, Int.reduceNeg, h6]
              exact .inl ⟨rfl, _, by rw [len_map, hLl], look_same _ _ _⟩
            · rw [h6, cond_false]
              simp only [↓RP, RQ, if_true, if_false, cond_true, cond_false, vcBin, bne, ne_eq, vcRet, resAll, resA, retOf, Int.reduceEq, Int.reduceNe, Int.reduceLT, Int.reduceLE, Int.reduceGT, Int.reduceGE, Int.reduceBEq, Int.reduceBNe, Nat.reduceLT, Nat.reduceLeDiff, Nat.reduceAdd, Nat.reduceSub, Nat.reduceMul, Nat.reduceEqDiff, Nat.reduceBEq, Nat.reduceBNe, reduceCtorEq, Int.reduceNeg, h6]
              exact .inr ⟨by decide, rfl, rfl⟩
      · have hge : i = xs.length := by simp at h4; omega
        have hz : xs.drop i = [] := List.drop_eq_nil_of_le (by omega)
        rw [hz, cutN, Nat.add_zero] at hg
        have hik : i = cutN day xs := hg.symm
        rw [← hik] at hlr
        have hk1 : ((i : Int) ≤ (xs.length : Int)) = True := by simp; omega
        have hk2 : (i ≤ xs.length) = True := by simp; omega
        have ht1 : ((xs.take i).map Ntc.row).length = i := by simp; omega
        have ht2 : ((xs.drop i).map Ntc.row).length = xs.length - i := by simp
        have h8a : (i * 40 ≤ 140737488355328) = True := by simp; omega
        have h8b : ((i + 1) * 40 ≤ 140737488355328) = True := by simp; omega
        have h8c : ((i + (1 + (xs.length - i))) * 40 ≤ 140737488355328) = True := by simp; omega
        have h8d : ((xs.length + 1) * 40 ≤ 140737488355328) = True := by simp; omega
        have hn2 : i + (1 + (xs.length - i)) = xs.length + 1 := by omega
        have htk : ((xs.take i).map Ntc.row ++ [[AV.v (.string p), .v (.int .i64 day), .v (.int .i64 days), .v (.int .i64 (-1))]]).take (i + 1) = (xs.take i).map Ntc.row ++ [[AV.v (.string p), .v (.int .i64 day), .v (.int .i64 days), .v (.int .i64 (-1))]] := List.take_of_length_le (by rw [List.length_append, ht1]; simp)
        have htl : ((xs.take i).map Ntc.row ++ [[AV.v (.string p), .v (.int .i64 day), .v (.int .i64 days), .v (.int .i64 (-1))]]).length = i + 1 := by rw [List.length_append, ht1]; rfl
        have hti : ((xs.take i).map Ntc.row).take i = (xs.take i).map Ntc.row := List.take_of_length_le (by rw [ht1]; exact Nat.le_refl _)
        simp only [↓RP, RQ, if_true, if_false, cond_true, cond_false, vcBin, bne, ne_eq, vcRet, resAll, resA, retOf, Int.reduceEq, Int.reduceNe, Int.reduceLT, Int.reduceLE, Int.reduceGT, Int.reduceGE, Int.reduceBEq, Int.reduceBNe, Nat.reduceLT, Nat.reduceLeDiff, Nat.reduceAdd, Nat.reduceSub, Nat.reduceMul, Nat.reduceEqDiff, Nat.reduceBEq, Nat.reduceBNe, reduceCtorEq, Int.reduceNeg, h4]
        apply vcLoud.of (fun _ => True)
        case h1 => intro G hG; simp only [↓RP, RQ, if_true, if_false, cond_true, cond_false, vcBin, bne, ne_eq, vcRet, resAll, resA, retOf, Int.reduceEq, Int.reduceNe, Int.reduceLT, Int.reduceLE, Int.reduceGT, Int.reduceGE, Int.reduceBEq, Int.reduceBNe, Nat.reduceLT, Nat.reduceLeDiff, Nat.reduceAdd, Nat.reduceSub, Nat.reduceMul, Nat.reduceEqDiff, Nat.reduceBEq, Nat.reduceBNe, reduceCtorEq, Int.reduceNeg, bound, nn, tn, hk1, hk2, len_map, rows_take, rows_drop, Int.le_refl, Int.toNat_zero, fillA]; rfl
        simp (config := { maxSteps := 5000000 }) only [↓RP, RQ, if_true, if_false, cond_true, cond_false, vcBin, bne, ne_eq, vcRet, resAll, resA, retOf, Int.reduceEq, Int.reduceNe, Int.reduceLT, Int.reduceLE, Int.reduceGT, Int.reduceGE, Int.reduceBEq, Int.reduceBNe, Nat.reduceLT, Nat.reduceLeDiff, Nat.reduceAdd, Nat.reduceSub, Nat.reduceMul, Nat.reduceEqDiff, Nat.reduceBEq, Nat.reduceBNe, reduceCtorEq, Int.reduceNeg, vcT_leaf, vcT_alt, vcT_step, elems, nn, tn, ht1, ht2, h8a, h8b, h8c, h8d, hn2, htk, htl, hti, hlr, List.nil_append, true_le, Nat.zero_le]
        and_intros
        all_goals
          refine vcCall.same (Runs.pure (s16 _ (sndL xs p day days) (by rw [hLl]; have := (isDia_good h1).1; omega) hLo) (.cons (Fz.all (by simp only [↓RP, RQ, if_true, if_false, cond_true, cond_false, vcBin, bne, ne_eq, vcRet, resAll, resA, retOf, Int.reduceEq, Int.reduceNe, Int.reduceLT, Int.reduceLE, Int.reduceGT, Int.reduceGE, Int.reduceBEq, Int.reduceBNe, Nat.reduceLT, Nat.reduceLeDiff, Nat.reduceAdd, Nat.reduceSub, Nat.reduceMul, Nat.reduceEqDiff, Nat.reduceBEq, Nat.reduceBNe, reduceCtorEq, Int.reduceNeg]) (by rw [len_map, hLl])) .nil) (.v _)) ?_
          simp only [↓RP, RQ, if_true, if_false, cond_true, cond_false, vcBin, bne, ne_eq, vcRet, resAll, resA, retOf, Int.reduceEq, Int.reduceNe, Int.reduceLT, Int.reduceLE, Int.reduceGT, Int.reduceGE, Int.reduceBEq, Int.reduceBNe, Nat.reduceLT, Nat.reduceLeDiff, Nat.reduceAdd, Nat.reduceSub, Nat.reduceMul, Nat.reduceEqDiff, Nat.reduceBEq, Nat.reduceBNe, reduceCtorEq, Int.reduceNeg]
          first | refine vcIf.of (fun h6 => ?_) (fun h6 => ?_) | refine vcQIf.of (fun h6 => ?_) (fun h6 => ?_)
          · rw [h6, cond_true]
            simp only [↓RP, RQ, if_true, if_false, cond_true, cond_false, vcBin, bne, ne_eq, vcRet, resAll, resA, retOf, Int.reduceEq, Int.reduceNe, Int.reduceLT, Int.reduceLE, Int.reduceGT, Int.reduceGE, Int.reduceBEq, Int.reduceBNe, Nat.reduceLT, Nat.reduceLeDiff, Nat.reduceAdd, Nat.reduceSub, Nat.reduceMul, Nat.reduceEqDiff, Nat.reduceBEq, Nat.reduceBNe, reduceCtorEq, Int.reduceNeg, h6]
            exact .inl ⟨rfl, _, by rw [len_map, hLl], look_same _ _ _⟩
          · rw [h6, cond_false]
            simp only [↓RP, RQ, if_true, if_false, cond_true, cond_false, vcBin, bne, ne_eq, vcRet, resAll, resA, retOf, Int.reduceEq, Int.reduceNe, Int.reduceLT, Int.reduceLE, Int.reduceGT, Int.reduceGE, Int.reduceBEq, Int.reduceBNe, Nat.reduceLT, Nat.reduceLeDiff, Nat.reduceAdd, Nat.reduceSub, Nat.reduceMul, Nat.reduceEqDiff, Nat.reduceBEq, Nat.reduceBNe, reduceCtorEq, Int.reduceNeg, h6]
            exact .inr ⟨by decide, rfl, rfl⟩
    · have h3' : okDay day = false := h3
      simp only [↓RP, RQ, if_true, if_false, cond_true, cond_false, vcBin, bne, ne_eq, vcRet, resAll, resA, retOf, Int.reduceEq, Int.reduceNe, Int.reduceLT, Int.reduceLE, Int.reduceGT, Int.reduceGE, Int.reduceBEq, Int.reduceBNe, Nat.reduceLT, Nat.reduceLeDiff, Nat.reduceAdd, Nat.reduceSub, Nat.reduceMul, Nat.reduceEqDiff, Nat.reduceBEq, Nat.reduceBNe, reduceCtorEq, Int.reduceNeg, h3, sndT, h1, h3']
      exact .inr ⟨by decide, rfl, rfl⟩
  · simp only [↓RP, RQ, if_true, if_false, cond_true, cond_false, vcBin, bne, ne_eq, vcRet, resAll, resA, retOf, Int.reduceEq, Int.reduceNe, Int.reduceLT, Int.reduceLE, Int.reduceGT, Int.reduceGE, Int.reduceBEq, Int.reduceBNe, Nat.reduceLT, Nat.reduceLeDiff, Nat.reduceAdd, Nat.reduceSub, Nat.reduceMul, Nat.reduceEqDiff, Nat.reduceBEq, Nat.reduceBNe, reduceCtorEq, Int.reduceNeg, h1, sndT]
    exact .inr ⟨by decide, rfl, rfl⟩
theorem s95 (N : Nat) (x : Ntc) (day : Int) : Runs Try.prog 95 [.agg x.row, .rp [.v (.int .i64 day)]] (emp N) fun r' H' => r' = .v (.bool (upto day x)) ∧ H' = emp N := by
  refine Runs.fin0 (Q := fun r H' => r = .v (.bool (upto day x))) ?_ (fun r H' h => by rw [h]; exact .same _ (.inl rfl)) (.v _)
  refine C95_fn ?_
  unfold C95
  simp only [↓RP, RQ, if_true, if_false, cond_true, cond_false, vcBin, bne, ne_eq, vcRet, resAll, resA, retOf, Int.reduceEq, Int.reduceNe, Int.reduceLT, Int.reduceLE, Int.reduceGT, Int.reduceGE, Int.reduceBEq, Int.reduceBNe, Nat.reduceLT, Nat.reduceLeDiff, Nat.reduceAdd, Nat.reduceSub, Nat.reduceMul, Nat.reduceEqDiff, Nat.reduceBEq, Nat.reduceBNe, reduceCtorEq, Int.reduceNeg, Ntc.row, upto]
theorem g38 (N : Nat) (xs : List Ntc) (hn : xs.length ≤ 1048576) (hx : ∀ x, x ∈ xs → x.ok) (p : ByteArray) (hp : p.size ≤ 1048576) (day : Int) (hday : -9223372036854775808 ≤ day ∧ day < 9223372036854775808) (days : Int) (hdays : -9223372036854775808 ≤ days ∧ days < 9223372036854775808) :
    Runs Try.prog 38 [.ro 4 (xs.map Ntc.row), .v (.string p), .v (.int .i64 day), .v (.int .i64 days)] (emp N) (Got 4 ((sndT xs p day days).1.map Ntc.row) (sndT xs p day days).2) := by
  have hm : xs.length ≤ maxLen := by have : maxLen = 9223372036854775807 := rfl; omega
  refine C38_fn ?_
  unfold C38
  simp only [↓RP, RQ, if_true, if_false, cond_true, cond_false, vcBin, bne, ne_eq, vcRet, resAll, resA, retOf, Int.reduceEq, Int.reduceNe, Int.reduceLT, Int.reduceLE, Int.reduceGT, Int.reduceGE, Int.reduceBEq, Int.reduceBNe, Nat.reduceLT, Nat.reduceLeDiff, Nat.reduceAdd, Nat.reduceSub, Nat.reduceMul, Nat.reduceEqDiff, Nat.reduceBEq, Nat.reduceBNe, reduceCtorEq, Int.reduceNeg]
  first | refine vcCall.same (Runs.pure (s85 _ xs hn hx day) (Fzl.same _) (.v _)) ?_ | refine vcQCall.same (Runs.pure (s85 _ xs hn hx day) (Fzl.same _) (.v _)) ?_
  cases h1 : isDia xs with
  | false =>
    simp only [↓RP, RQ, if_true, if_false, cond_true, cond_false, vcBin, bne, ne_eq, vcRet, resAll, resA, retOf, Int.reduceEq, Int.reduceNe, Int.reduceLT, Int.reduceLE, Int.reduceGT, Int.reduceGE, Int.reduceBEq, Int.reduceBNe, Nat.reduceLT, Nat.reduceLeDiff, Nat.reduceAdd, Nat.reduceSub, Nat.reduceMul, Nat.reduceEqDiff, Nat.reduceBEq, Nat.reduceBNe, reduceCtorEq, Int.reduceNeg, tCode, h1, sndT]
    exact .inr ⟨by decide, rfl, rfl⟩
  | true => cases h3 : okDay day with
    | false =>
      simp only [↓RP, RQ, if_true, if_false, cond_true, cond_false, vcBin, bne, ne_eq, vcRet, resAll, resA, retOf, Int.reduceEq, Int.reduceNe, Int.reduceLT, Int.reduceLE, Int.reduceGT, Int.reduceGE, Int.reduceBEq, Int.reduceBNe, Nat.reduceLT, Nat.reduceLeDiff, Nat.reduceAdd, Nat.reduceSub, Nat.reduceMul, Nat.reduceEqDiff, Nat.reduceBEq, Nat.reduceBNe, reduceCtorEq, Int.reduceNeg, tCode, h1, h3, sndT]
      exact .inr ⟨by decide, rfl, rfl⟩
    | true =>
      have hR : sndT xs p day days = bif isDia (sndL xs p day days) then (sndL xs p day days, 0) else ([], 5) := by rw [sndT, h1, h3]; rfl
      have hkx := cutN_le day xs
      have hLl := sndL_len xs p day days
      have hlr := sndL_rows xs p day days
      have hLo : ∀ x, x ∈ sndL xs p day days → x.ok := fun x h => by
        rcases List.mem_append.1 h with h | h
        · rcases List.mem_append.1 h with h | h
          · exact hx x (List.mem_of_mem_take h)
          · rw [List.mem_singleton.1 h]; exact ⟨hp, hday, hdays, by show -9223372036854775808 ≤ (-1 : Int); decide, by show (-1 : Int) < 9223372036854775808; decide⟩
        · exact hx x (List.mem_of_mem_drop h)
      obtain ⟨i, hik⟩ : ∃ i, i = cutN day xs := ⟨_, rfl⟩
      have hi : i ≤ xs.length := by omega
      have hic : (indL (upto day) xs 0).length = i := by rw [indL_len, cut_filter day xs none (isDia_rise h1), hik]
      rw [← hik] at hlr
      have hk1 : ((i : Int) ≤ (xs.length : Int)) = True := by simp; omega
      have hk2 : (i ≤ xs.length) = True := by simp; omega
      have ht1 : ((xs.take i).map Ntc.row).length = i := by simp; omega
      have ht2 : ((xs.drop i).map Ntc.row).length = xs.length - i := by simp
      have h8a : (i * 40 ≤ 140737488355328) = True := by simp; omega
      have h8b : ((i + 1) * 40 ≤ 140737488355328) = True := by simp; omega
      have h8c : ((i + (1 + (xs.length - i))) * 40 ≤ 140737488355328) = True := by simp; omega
      have h8d : ((xs.length + 1) * 40 ≤ 140737488355328) = True := by simp; omega
      have hn2 : i + (1 + (xs.length - i)) = xs.length + 1 := by omega
      have htk : ((xs.take i).map Ntc.row ++ [[AV.v (.string p), .v (.int .i64 day), .v (.int .i64 days), .v (.int .i64 (-1))]]).take (i + 1) = (xs.take i).map Ntc.row ++ [[AV.v (.string p), .v (.int .i64 day), .v (.int .i64 days), .v (.int .i64 (-1))]] := List.take_of_length_le (by rw [List.length_append, ht1]; simp)
      have htl : ((xs.take i).map Ntc.row ++ [[AV.v (.string p), .v (.int .i64 day), .v (.int .i64 days), .v (.int .i64 (-1))]]).length = i + 1 := by rw [List.length_append, ht1]; rfl
      have hti : ((xs.take i).map Ntc.row).take i = (xs.take i).map Ntc.row := List.take_of_length_le (by rw [ht1]; exact Nat.le_refl _)
      rw [hR]
      simp only [↓RP, RQ, if_true, if_false, cond_true, cond_false, vcBin, bne, ne_eq, vcRet, resAll, resA, retOf, Int.reduceEq, Int.reduceNe, Int.reduceLT, Int.reduceLE, Int.reduceGT, Int.reduceGE, Int.reduceBEq, Int.reduceBNe, Nat.reduceLT, Nat.reduceLeDiff, Nat.reduceAdd, Nat.reduceSub, Nat.reduceMul, Nat.reduceEqDiff, Nat.reduceBEq, Nat.reduceBNe, reduceCtorEq, Int.reduceNeg, tCode, h1, h3]
      refine vcCall.to (Got1.at (q93 _ xs hn (upto day) 95 [.rp [.v (.int .i64 day)]] fun M x h => s95 M x day) (.cons (.same _ (.inl rfl)) (.cons (Fz.fnl (.cons (Fz.row (sz := 1) (by simp only [↓RP, RQ, if_true, if_false, cond_true, cond_false, vcBin, bne, ne_eq, vcRet, resAll, resA, retOf, Int.reduceEq, Int.reduceNe, Int.reduceLT, Int.reduceLE, Int.reduceGT, Int.reduceGE, Int.reduceBEq, Int.reduceBNe, Nat.reduceLT, Nat.reduceLeDiff, Nat.reduceAdd, Nat.reduceSub, Nat.reduceMul, Nat.reduceEqDiff, Nat.reduceBEq, Nat.reduceBNe, reduceCtorEq, Int.reduceNeg])) .nil)) .nil)) (norefs_map int1_nr _) (noros_map int1_no _)) ?_
      simp only [↓RP, RQ, if_true, if_false, cond_true, cond_false, vcBin, bne, ne_eq, vcRet, resAll, resA, retOf, Int.reduceEq, Int.reduceNe, Int.reduceLT, Int.reduceLE, Int.reduceGT, Int.reduceGE, Int.reduceBEq, Int.reduceBNe, Nat.reduceLT, Nat.reduceLeDiff, Nat.reduceAdd, Nat.reduceSub, Nat.reduceMul, Nat.reduceEqDiff, Nat.reduceBEq, Nat.reduceBNe, reduceCtorEq, Int.reduceNeg, len_map]
      first | refine vcCall.same (Runs.pure (s88 _ (indL (upto day) xs 0)) (.cons (Fz.all (by simp only [↓RP, RQ, if_true, if_false, cond_true, cond_false, vcBin, bne, ne_eq, vcRet, resAll, resA, retOf, Int.reduceEq, Int.reduceNe, Int.reduceLT, Int.reduceLE, Int.reduceGT, Int.reduceGE, Int.reduceBEq, Int.reduceBNe, Nat.reduceLT, Nat.reduceLeDiff, Nat.reduceAdd, Nat.reduceSub, Nat.reduceMul, Nat.reduceEqDiff, Nat.reduceBEq, Nat.reduceBNe, reduceCtorEq, Int.reduceNeg]) (len_map _ _).symm) .nil) (.v _)) ?_ | refine vcQCall.same (Runs.pure (s88 _ (indL (upto day) xs 0)) (.cons (Fz.all (by simp only [↓RP, RQ, if_true, if_false, cond_true, cond_false, vcBin, bne, ne_eq, vcRet, resAll, resA, retOf, Int.reduceEq, Int.reduceNe, Int.reduceLT, Int.reduceLE, Int.reduceGT, Int.reduceGE, Int.reduceBEq, Int.reduceBNe, Nat.reduceLT, Nat.reduceLeDiff, Nat.reduceAdd, Nat.reduceSub, Nat.reduceMul, Nat.reduceEqDiff, Nat.reduceBEq, Nat.reduceBNe, reduceCtorEq, Int.reduceNeg]) (len_map _ _).symm) .nil) (.v _)) ?_
      simp only [↓RP, RQ, if_true, if_false, cond_true, cond_false, vcBin, bne, ne_eq, vcRet, resAll, resA, retOf, Int.reduceEq, Int.reduceNe, Int.reduceLT, Int.reduceLE, Int.reduceGT, Int.reduceGE, Int.reduceBEq, Int.reduceBNe, Nat.reduceLT, Nat.reduceLeDiff, Nat.reduceAdd, Nat.reduceSub, Nat.reduceMul, Nat.reduceEqDiff, Nat.reduceBEq, Nat.reduceBNe, reduceCtorEq, Int.reduceNeg, hic]
      apply vcLoud.of (fun G => G.m N = some ⟨1, [[.v (.int .i64 day)]]⟩)
      case h1 => intro G hG; simp only [↓RP, RQ, if_true, if_false, cond_true, cond_false, vcBin, bne, ne_eq, vcRet, resAll, resA, retOf, Int.reduceEq, Int.reduceNe, Int.reduceLT, Int.reduceLE, Int.reduceGT, Int.reduceGE, Int.reduceBEq, Int.reduceBNe, Nat.reduceLT, Nat.reduceLeDiff, Nat.reduceAdd, Nat.reduceSub, Nat.reduceMul, Nat.reduceEqDiff, Nat.reduceBEq, Nat.reduceBNe, reduceCtorEq, Int.reduceNeg, bound, nn, tn, hk1, hk2, len_map, rows_take, rows_drop, Int.le_refl, Int.toNat_zero, fillA, hG]; rfl
      simp (config := { maxSteps := 5000000 }) only [↓RP, RQ, if_true, if_false, cond_true, cond_false, vcBin, bne, ne_eq, vcRet, resAll, resA, retOf, Int.reduceEq, Int.reduceNe, Int.reduceLT, Int.reduceLE, Int.reduceGT, Int.reduceGE, Int.reduceBEq, Int.reduceBNe, Nat.reduceLT, Nat.reduceLeDiff, Nat.reduceAdd, Nat.reduceSub, Nat.reduceMul, Nat.reduceEqDiff, Nat.reduceBEq, Nat.reduceBNe, reduceCtorEq, Int.reduceNeg, vcT_leaf, vcT_alt, vcT_step, elems, nn, tn, ht1, ht2, h8a, h8b, h8c, h8d, hn2, htk, htl, hti, hlr, List.nil_append, true_le, Nat.zero_le]
      and_intros
      all_goals
        refine vcCall.to (Got1.at (q92 _ (xs.take i) (by rw [List.length_take]; omega)) (Fzl.same _) (norefs_map Ntc.nr _) (noros_map Ntc.no _)) ?_
        simp only [↓RP, RQ, if_true, if_false, cond_true, cond_false, vcBin, bne, ne_eq, vcRet, resAll, resA, retOf, Int.reduceEq, Int.reduceNe, Int.reduceLT, Int.reduceLE, Int.reduceGT, Int.reduceGE, Int.reduceBEq, Int.reduceBNe, Nat.reduceLT, Nat.reduceLeDiff, Nat.reduceAdd, Nat.reduceSub, Nat.reduceMul, Nat.reduceEqDiff, Nat.reduceBEq, Nat.reduceBNe, reduceCtorEq, Int.reduceNeg, vcT_leaf, vcT_alt, vcT_step, elems, nn, tn, ht1, ht2, h8a, h8b, h8c, h8d, hn2, htk, htl, hti, hlr, List.nil_append, true_le, Nat.zero_le]
      all_goals and_intros
      all_goals
        refine vcCall.same (Runs.pure (s18 _ (sndL xs p day days) (by rw [hLl]; have := (isDia_good h1).1; omega) hLo) (.cons (Fz.all (by simp only [↓RP, RQ, if_true, if_false, cond_true, cond_false, vcBin, bne, ne_eq, vcRet, resAll, resA, retOf, Int.reduceEq, Int.reduceNe, Int.reduceLT, Int.reduceLE, Int.reduceGT, Int.reduceGE, Int.reduceBEq, Int.reduceBNe, Nat.reduceLT, Nat.reduceLeDiff, Nat.reduceAdd, Nat.reduceSub, Nat.reduceMul, Nat.reduceEqDiff, Nat.reduceBEq, Nat.reduceBNe, reduceCtorEq, Int.reduceNeg]) (by rw [len_map, hLl])) .nil) (.v _)) ?_
        simp only [↓RP, RQ, if_true, if_false, cond_true, cond_false, vcBin, bne, ne_eq, vcRet, resAll, resA, retOf, Int.reduceEq, Int.reduceNe, Int.reduceLT, Int.reduceLE, Int.reduceGT, Int.reduceGE, Int.reduceBEq, Int.reduceBNe, Nat.reduceLT, Nat.reduceLeDiff, Nat.reduceAdd, Nat.reduceSub, Nat.reduceMul, Nat.reduceEqDiff, Nat.reduceBEq, Nat.reduceBNe, reduceCtorEq, Int.reduceNeg]
        first | refine vcIf.of (fun h6 => ?_) (fun h6 => ?_) | refine vcQIf.of (fun h6 => ?_) (fun h6 => ?_)
        · rw [h6, cond_true]
          simp only [↓RP, RQ, if_true, if_false, cond_true, cond_false, vcBin, bne, ne_eq, vcRet, resAll, resA, retOf, Int.reduceEq, Int.reduceNe, Int.reduceLT, Int.reduceLE, Int.reduceGT, Int.reduceGE, Int.reduceBEq, Int.reduceBNe, Nat.reduceLT, Nat.reduceLeDiff, Nat.reduceAdd, Nat.reduceSub, Nat.reduceMul, Nat.reduceEqDiff, Nat.reduceBEq, Nat.reduceBNe, reduceCtorEq, Int.reduceNeg, h6]
          exact .inl ⟨rfl, _, by rw [len_map, hLl], look_same _ _ _⟩
        · rw [h6, cond_false]
          simp only [↓RP, RQ, if_true, if_false, cond_true, cond_false, vcBin, bne, ne_eq, vcRet, resAll, resA, retOf, Int.reduceEq, Int.reduceNe, Int.reduceLT, Int.reduceLE, Int.reduceGT, Int.reduceGE, Int.reduceBEq, Int.reduceBNe, Nat.reduceLT, Nat.reduceLeDiff, Nat.reduceAdd, Nat.reduceSub, Nat.reduceMul, Nat.reduceEqDiff, Nat.reduceBEq, Nat.reduceBNe, reduceCtorEq, Int.reduceNeg, h6]
          exact .inr ⟨by decide, rfl, rfl⟩
theorem lawFnExactSendNotice (N : Nat) {a0 : AV} (h0 : LeafOk (.sl [.str, .int .i64, .int .i64, .int .i64]) a0) {a1 : AV} (h1 : LeafOk (.str) a1) {a2 : AV} (h2 : LeafOk (.int .i64) a2) {a3 : AV} (h3 : LeafOk (.int .i64) a3) : Runs Try.prog 10 [a0, a1, a2, a3] (emp N) fun r H' => r = .v (.bool true) ∧ H' = emp N := by
  obtain ⟨xs, rfl, hm_xs, hw_xs⟩ := rows_of Ntc.of h0
  obtain ⟨p, rfl, hs0_p⟩ := leaf_str h1
  obtain ⟨day, rfl, hw0_day⟩ := leaf_int h2
  have hb_day := wf_i64 hw0_day
  obtain ⟨days, rfl, hw0_days⟩ := leaf_int h3
  have hb_days := wf_i64 hw0_days
  refine Runs.fin0 (Q := fun r H' => r = .v (.bool true)) ?_ (fun r H' h => by rw [h]; exact .same _ (.inl rfl)) (.v _)
  refine C10_fn ?_
  unfold C10
  simp only [↓RP, RQ, if_true, if_false, cond_true, cond_false, vcBin, bne, ne_eq, vcRet, resAll, resA, retOf, Int.reduceEq, Int.reduceNe, Int.reduceLT, Int.reduceLE, Int.reduceGT, Int.reduceGE, Int.reduceBEq, Int.reduceBNe, Nat.reduceLT, Nat.reduceLeDiff, Nat.reduceAdd, Nat.reduceSub, Nat.reduceMul, Nat.reduceEqDiff, Nat.reduceBEq, Nat.reduceBNe, reduceCtorEq, Int.reduceNeg, len_map]
  first | refine vcIf.dec (fun q_p => ?_) (fun q_p => ?_) | refine vcQIf.dec (fun q_p => ?_) (fun q_p => ?_)
  · simp only [↓RP, RQ, if_true, if_false, cond_true, cond_false, vcBin, bne, ne_eq, vcRet, resAll, resA, retOf, Int.reduceEq, Int.reduceNe, Int.reduceLT, Int.reduceLE, Int.reduceGT, Int.reduceGE, Int.reduceBEq, Int.reduceBNe, Nat.reduceLT, Nat.reduceLeDiff, Nat.reduceAdd, Nat.reduceSub, Nat.reduceMul, Nat.reduceEqDiff, Nat.reduceBEq, Nat.reduceBNe, reduceCtorEq, Int.reduceNeg, q_p]
  · have hn_p : p.size ≤ 1048576 := by simp at q_p; omega
    simp only [↓RP, RQ, if_true, if_false, cond_true, cond_false, vcBin, bne, ne_eq, vcRet, resAll, resA, retOf, Int.reduceEq, Int.reduceNe, Int.reduceLT, Int.reduceLE, Int.reduceGT, Int.reduceGE, Int.reduceBEq, Int.reduceBNe, Nat.reduceLT, Nat.reduceLeDiff, Nat.reduceAdd, Nat.reduceSub, Nat.reduceMul, Nat.reduceEqDiff, Nat.reduceBEq, Nat.reduceBNe, reduceCtorEq, Int.reduceNeg, len_map, q_p]
    first | refine vcCall.same (s15 N xs _ hm_xs) ?_ | refine vcQCall.same (s15 N xs _ hm_xs) ?_
    simp only [↓RP, RQ, if_true, if_false, cond_true, cond_false, vcBin, bne, ne_eq, vcRet, resAll, resA, retOf, Int.reduceEq, Int.reduceNe, Int.reduceLT, Int.reduceLE, Int.reduceGT, Int.reduceGE, Int.reduceBEq, Int.reduceBNe, Nat.reduceLT, Nat.reduceLeDiff, Nat.reduceAdd, Nat.reduceSub, Nat.reduceMul, Nat.reduceEqDiff, Nat.reduceBEq, Nat.reduceBNe, reduceCtorEq, Int.reduceNeg, len_map, q_p]
    first | refine vcIf.dec (fun h_xs => ?_) (fun h_xs => ?_) | refine vcQIf.dec (fun h_xs => ?_) (fun h_xs => ?_)
    · simp only [↓RP, RQ, if_true, if_false, cond_true, cond_false, vcBin, bne, ne_eq, vcRet, resAll, resA, retOf, Int.reduceEq, Int.reduceNe, Int.reduceLT, Int.reduceLE, Int.reduceGT, Int.reduceGE, Int.reduceBEq, Int.reduceBNe, Nat.reduceLT, Nat.reduceLeDiff, Nat.reduceAdd, Nat.reduceSub, Nat.reduceMul, Nat.reduceEqDiff, Nat.reduceBEq, Nat.reduceBNe, reduceCtorEq, Int.reduceNeg, q_p, h_xs]
    · obtain ⟨hn_xs, hx_xs, hl_xs⟩ := szS_fit Ntc.fit hw_xs hm_xs (by decide) (by decide) (Int.not_lt.1 h_xs)
      simp only [↓RP, RQ, if_true, if_false, cond_true, cond_false, vcBin, bne, ne_eq, vcRet, resAll, resA, retOf, Int.reduceEq, Int.reduceNe, Int.reduceLT, Int.reduceLE, Int.reduceGT, Int.reduceGE, Int.reduceBEq, Int.reduceBNe, Nat.reduceLT, Nat.reduceLeDiff, Nat.reduceAdd, Nat.reduceSub, Nat.reduceMul, Nat.reduceEqDiff, Nat.reduceBEq, Nat.reduceBNe, reduceCtorEq, Int.reduceNeg, len_map, q_p, h_xs]
      have hT : ((sndT xs p day days).1).length ≤ 1048576 := sndT_len xs p day days hn_xs
      obtain ⟨T, hTe⟩ : ∃ T, (sndT xs p day days).1 = T := ⟨_, rfl⟩
      have gs := g37 N xs hn_xs hx_xs p hn_p day hb_day days hb_days
      have gi := fun M => g38 M xs hn_xs hx_xs p hn_p day hb_day days hb_days
      have hemp : (sndT xs p day days).2 ≠ 0 → (sndT xs p day days).1 = [] := sndT_emp xs p day days
      simp only [hTe] at gs gi hT hemp
      generalize (sndT xs p day days).2 = c at gs gi hemp
      first | refine vcCall.same (s17 N xs hn_xs) ?_ | refine vcQCall.same (s17 N xs hn_xs) ?_
      simp only [↓RP, RQ, if_true, if_false, cond_true, cond_false, vcBin, bne, ne_eq, vcRet, resAll, resA, retOf, Int.reduceEq, Int.reduceNe, Int.reduceLT, Int.reduceLE, Int.reduceGT, Int.reduceGE, Int.reduceBEq, Int.reduceBNe, Nat.reduceLT, Nat.reduceLeDiff, Nat.reduceAdd, Nat.reduceSub, Nat.reduceMul, Nat.reduceEqDiff, Nat.reduceBEq, Nat.reduceBNe, reduceCtorEq, Int.reduceNeg, len_map, q_p, h_xs]
      first | refine vcCall.same (Got.ro gs (norefs_map Ntc.nr _)) ?_ | refine vcQCall.same (Got.ro gs (norefs_map Ntc.nr _)) ?_
      simp only [↓RP, RQ, if_true, if_false, cond_true, cond_false, vcBin, bne, ne_eq, vcRet, resAll, resA, retOf, Int.reduceEq, Int.reduceNe, Int.reduceLT, Int.reduceLE, Int.reduceGT, Int.reduceGE, Int.reduceBEq, Int.reduceBNe, Nat.reduceLT, Nat.reduceLeDiff, Nat.reduceAdd, Nat.reduceSub, Nat.reduceMul, Nat.reduceEqDiff, Nat.reduceBEq, Nat.reduceBNe, reduceCtorEq, Int.reduceNeg, len_map, q_p, h_xs]
      refine vcCall.to (o17 _ xs hn_xs) ?_
      simp only [↓RP, RQ, if_true, if_false, cond_true, cond_false, vcBin, bne, ne_eq, vcRet, resAll, resA, retOf, Int.reduceEq, Int.reduceNe, Int.reduceLT, Int.reduceLE, Int.reduceGT, Int.reduceGE, Int.reduceBEq, Int.reduceBNe, Nat.reduceLT, Nat.reduceLeDiff, Nat.reduceAdd, Nat.reduceSub, Nat.reduceMul, Nat.reduceEqDiff, Nat.reduceBEq, Nat.reduceBNe, reduceCtorEq, Int.reduceNeg, len_map, q_p, h_xs]
      rcases Decidable.em (c = 0) with hc | hc
      · skip
        refine vcCall.to (Got.at (gi _) hc (.cons (Fz.all (by simp only [↓RP, RQ, if_true, if_false, cond_true, cond_false, vcBin, bne, ne_eq, vcRet, resAll, resA, retOf, Int.reduceEq, Int.reduceNe, Int.reduceLT, Int.reduceLE, Int.reduceGT, Int.reduceGE, Int.reduceBEq, Int.reduceBNe, Nat.reduceLT, Nat.reduceLeDiff, Nat.reduceAdd, Nat.reduceSub, Nat.reduceMul, Nat.reduceEqDiff, Nat.reduceBEq, Nat.reduceBNe, reduceCtorEq, Int.reduceNeg]) (len_map _ _).symm) (.cons (.same _ (.inl rfl)) (.cons (.same _ (.inl rfl)) (.cons (.same _ (.inl rfl)) .nil)))) (norefs_map Ntc.nr _) (noros_map Ntc.no _)) ?_
        simp only [↓RP, RQ, if_true, if_false, cond_true, cond_false, vcBin, bne, ne_eq, vcRet, resAll, resA, retOf, Int.reduceEq, Int.reduceNe, Int.reduceLT, Int.reduceLE, Int.reduceGT, Int.reduceGE, Int.reduceBEq, Int.reduceBNe, Nat.reduceLT, Nat.reduceLeDiff, Nat.reduceAdd, Nat.reduceSub, Nat.reduceMul, Nat.reduceEqDiff, Nat.reduceBEq, Nat.reduceBNe, reduceCtorEq, Int.reduceNeg, int_refl, hc, len_map, q_p, h_xs]
        first | refine vcCall.same (Runs.pure (s19 _ T hT) (.cons (Fz.all (by simp only [↓RP, RQ, if_true, if_false, cond_true, cond_false, vcBin, bne, ne_eq, vcRet, resAll, resA, retOf, Int.reduceEq, Int.reduceNe, Int.reduceLT, Int.reduceLE, Int.reduceGT, Int.reduceGE, Int.reduceBEq, Int.reduceBNe, Nat.reduceLT, Nat.reduceLeDiff, Nat.reduceAdd, Nat.reduceSub, Nat.reduceMul, Nat.reduceEqDiff, Nat.reduceBEq, Nat.reduceBNe, reduceCtorEq, Int.reduceNeg]) (len_map _ _).symm) (.cons (.same _ (.inl rfl)) .nil)) (.v _)) ?_ | refine vcQCall.same (Runs.pure (s19 _ T hT) (.cons (Fz.all (by simp only [↓RP, RQ, if_true, if_false, cond_true, cond_false, vcBin, bne, ne_eq, vcRet, resAll, resA, retOf, Int.reduceEq, Int.reduceNe, Int.reduceLT, Int.reduceLE, Int.reduceGT, Int.reduceGE, Int.reduceBEq, Int.reduceBNe, Nat.reduceLT, Nat.reduceLeDiff, Nat.reduceAdd, Nat.reduceSub, Nat.reduceMul, Nat.reduceEqDiff, Nat.reduceBEq, Nat.reduceBNe, reduceCtorEq, Int.reduceNeg]) (len_map _ _).symm) (.cons (.same _ (.inl rfl)) .nil)) (.v _)) ?_
        simp only [↓RP, RQ, if_true, if_false, cond_true, cond_false, vcBin, bne, ne_eq, vcRet, resAll, resA, retOf, Int.reduceEq, Int.reduceNe, Int.reduceLT, Int.reduceLE, Int.reduceGT, Int.reduceGE, Int.reduceBEq, Int.reduceBNe, Nat.reduceLT, Nat.reduceLeDiff, Nat.reduceAdd, Nat.reduceSub, Nat.reduceMul, Nat.reduceEqDiff, Nat.reduceBEq, Nat.reduceBNe, reduceCtorEq, Int.reduceNeg, int_refl, hc, nlt0, nlt0', len_map, q_p, h_xs]
        refine vcCall.to (o17 _ xs hn_xs) ?_
        simp only [↓RP, RQ, if_true, if_false, cond_true, cond_false, vcBin, bne, ne_eq, vcRet, resAll, resA, retOf, Int.reduceEq, Int.reduceNe, Int.reduceLT, Int.reduceLE, Int.reduceGT, Int.reduceGE, Int.reduceBEq, Int.reduceBNe, Nat.reduceLT, Nat.reduceLeDiff, Nat.reduceAdd, Nat.reduceSub, Nat.reduceMul, Nat.reduceEqDiff, Nat.reduceBEq, Nat.reduceBNe, reduceCtorEq, Int.reduceNeg, len_map, q_p, h_xs]
        first | refine vcCall.same (Runs.pure (s19 _ xs hn_xs) (.cons (Fz.all (by simp only [↓RP, RQ, if_true, if_false, cond_true, cond_false, vcBin, bne, ne_eq, vcRet, resAll, resA, retOf, Int.reduceEq, Int.reduceNe, Int.reduceLT, Int.reduceLE, Int.reduceGT, Int.reduceGE, Int.reduceBEq, Int.reduceBNe, Nat.reduceLT, Nat.reduceLeDiff, Nat.reduceAdd, Nat.reduceSub, Nat.reduceMul, Nat.reduceEqDiff, Nat.reduceBEq, Nat.reduceBNe, reduceCtorEq, Int.reduceNeg]) (len_map _ _).symm) (.cons (Fz.all (by simp only [↓RP, RQ, if_true, if_false, cond_true, cond_false, vcBin, bne, ne_eq, vcRet, resAll, resA, retOf, Int.reduceEq, Int.reduceNe, Int.reduceLT, Int.reduceLE, Int.reduceGT, Int.reduceGE, Int.reduceBEq, Int.reduceBNe, Nat.reduceLT, Nat.reduceLeDiff, Nat.reduceAdd, Nat.reduceSub, Nat.reduceMul, Nat.reduceEqDiff, Nat.reduceBEq, Nat.reduceBNe, reduceCtorEq, Int.reduceNeg]) (len_map _ _).symm) .nil)) (.v _)) ?_ | refine vcQCall.same (Runs.pure (s19 _ xs hn_xs) (.cons (Fz.all (by simp only [↓RP, RQ, if_true, if_false, cond_true, cond_false, vcBin, bne, ne_eq, vcRet, resAll, resA, retOf, Int.reduceEq, Int.reduceNe, Int.reduceLT, Int.reduceLE, Int.reduceGT, Int.reduceGE, Int.reduceBEq, Int.reduceBNe, Nat.reduceLT, Nat.reduceLeDiff, Nat.reduceAdd, Nat.reduceSub, Nat.reduceMul, Nat.reduceEqDiff, Nat.reduceBEq, Nat.reduceBNe, reduceCtorEq, Int.reduceNeg]) (len_map _ _).symm) (.cons (Fz.all (by simp only [↓RP, RQ, if_true, if_false, cond_true, cond_false, vcBin, bne, ne_eq, vcRet, resAll, resA, retOf, Int.reduceEq, Int.reduceNe, Int.reduceLT, Int.reduceLE, Int.reduceGT, Int.reduceGE, Int.reduceBEq, Int.reduceBNe, Nat.reduceLT, Nat.reduceLeDiff, Nat.reduceAdd, Nat.reduceSub, Nat.reduceMul, Nat.reduceEqDiff, Nat.reduceBEq, Nat.reduceBNe, reduceCtorEq, Int.reduceNeg]) (len_map _ _).symm) .nil)) (.v _)) ?_
        simp only [↓RP, RQ, if_true, if_false, cond_true, cond_false, vcBin, bne, ne_eq, vcRet, resAll, resA, retOf, Int.reduceEq, Int.reduceNe, Int.reduceLT, Int.reduceLE, Int.reduceGT, Int.reduceGE, Int.reduceBEq, Int.reduceBNe, Nat.reduceLT, Nat.reduceLeDiff, Nat.reduceAdd, Nat.reduceSub, Nat.reduceMul, Nat.reduceEqDiff, Nat.reduceBEq, Nat.reduceBNe, reduceCtorEq, Int.reduceNeg, len_map, q_p, h_xs]
        refine vcCall.to (Runs.mut (by simp only [↓RP, RQ, if_true, if_false, cond_true, cond_false, vcBin, bne, ne_eq, vcRet, resAll, resA, retOf, Int.reduceEq, Int.reduceNe, Int.reduceLT, Int.reduceLE, Int.reduceGT, Int.reduceGE, Int.reduceBEq, Int.reduceBNe, Nat.reduceLT, Nat.reduceLeDiff, Nat.reduceAdd, Nat.reduceSub, Nat.reduceMul, Nat.reduceEqDiff, Nat.reduceBEq, Nat.reduceBNe, reduceCtorEq, Int.reduceNeg]) (flat_range fun i => mkNtc_flat _) (fun M hM => m29 M _ hM xs (1) (by omega) (by omega))) ?_
        simp only [↓RP, RQ, if_true, if_false, cond_true, cond_false, vcBin, bne, ne_eq, vcRet, resAll, resA, retOf, Int.reduceEq, Int.reduceNe, Int.reduceLT, Int.reduceLE, Int.reduceGT, Int.reduceGE, Int.reduceBEq, Int.reduceBNe, Nat.reduceLT, Nat.reduceLeDiff, Nat.reduceAdd, Nat.reduceSub, Nat.reduceMul, Nat.reduceEqDiff, Nat.reduceBEq, Nat.reduceBNe, reduceCtorEq, Int.reduceNeg, nlt0, nlt0', len_map, q_p, h_xs]
        first | refine vcCall.same (Runs.pure (s19 _ T hT) (.cons (Fz.all (by simp only [↓RP, RQ, if_true, if_false, cond_true, cond_false, vcBin, bne, ne_eq, vcRet, resAll, resA, retOf, Int.reduceEq, Int.reduceNe, Int.reduceLT, Int.reduceLE, Int.reduceGT, Int.reduceGE, Int.reduceBEq, Int.reduceBNe, Nat.reduceLT, Nat.reduceLeDiff, Nat.reduceAdd, Nat.reduceSub, Nat.reduceMul, Nat.reduceEqDiff, Nat.reduceBEq, Nat.reduceBNe, reduceCtorEq, Int.reduceNeg]) (len_map _ _).symm) (.cons (.same _ (.inl rfl)) .nil)) (.v _)) ?_ | refine vcQCall.same (Runs.pure (s19 _ T hT) (.cons (Fz.all (by simp only [↓RP, RQ, if_true, if_false, cond_true, cond_false, vcBin, bne, ne_eq, vcRet, resAll, resA, retOf, Int.reduceEq, Int.reduceNe, Int.reduceLT, Int.reduceLE, Int.reduceGT, Int.reduceGE, Int.reduceBEq, Int.reduceBNe, Nat.reduceLT, Nat.reduceLeDiff, Nat.reduceAdd, Nat.reduceSub, Nat.reduceMul, Nat.reduceEqDiff, Nat.reduceBEq, Nat.reduceBNe, reduceCtorEq, Int.reduceNeg]) (len_map _ _).symm) (.cons (.same _ (.inl rfl)) .nil)) (.v _)) ?_
        simp only [↓RP, RQ, if_true, if_false, cond_true, cond_false, vcBin, bne, ne_eq, vcRet, resAll, resA, retOf, Int.reduceEq, Int.reduceNe, Int.reduceLT, Int.reduceLE, Int.reduceGT, Int.reduceGE, Int.reduceBEq, Int.reduceBNe, Nat.reduceLT, Nat.reduceLeDiff, Nat.reduceAdd, Nat.reduceSub, Nat.reduceMul, Nat.reduceEqDiff, Nat.reduceBEq, Nat.reduceBNe, reduceCtorEq, Int.reduceNeg, int_refl, hc, nlt0, nlt0', len_map, q_p, h_xs]
        refine vcCall.to (Runs.mut (by simp only [↓RP, RQ, if_true, if_false, cond_true, cond_false, vcBin, bne, ne_eq, vcRet, resAll, resA, retOf, Int.reduceEq, Int.reduceNe, Int.reduceLT, Int.reduceLE, Int.reduceGT, Int.reduceGE, Int.reduceBEq, Int.reduceBNe, Nat.reduceLT, Nat.reduceLeDiff, Nat.reduceAdd, Nat.reduceSub, Nat.reduceMul, Nat.reduceEqDiff, Nat.reduceBEq, Nat.reduceBNe, reduceCtorEq, Int.reduceNeg]) (flat_range fun i => mkNtc_flat _) (fun M hM => m29 M _ hM T 1 (by omega) (by omega))) ?_
        simp only [↓RP, RQ, if_true, if_false, cond_true, cond_false, vcBin, bne, ne_eq, vcRet, resAll, resA, retOf, Int.reduceEq, Int.reduceNe, Int.reduceLT, Int.reduceLE, Int.reduceGT, Int.reduceGE, Int.reduceBEq, Int.reduceBNe, Nat.reduceLT, Nat.reduceLeDiff, Nat.reduceAdd, Nat.reduceSub, Nat.reduceMul, Nat.reduceEqDiff, Nat.reduceBEq, Nat.reduceBNe, reduceCtorEq, Int.reduceNeg, nlt0, nlt0', len_map, q_p, h_xs]
        first | refine vcCall.same (Runs.pure (s34 _ T.length 1 (by omega) (by omega)) (.cons (Fz.all (by simp only [↓RP, RQ, if_true, if_false, cond_true, cond_false, vcBin, bne, ne_eq, vcRet, resAll, resA, retOf, Int.reduceEq, Int.reduceNe, Int.reduceLT, Int.reduceLE, Int.reduceGT, Int.reduceGE, Int.reduceBEq, Int.reduceBNe, Nat.reduceLT, Nat.reduceLeDiff, Nat.reduceAdd, Nat.reduceSub, Nat.reduceMul, Nat.reduceEqDiff, Nat.reduceBEq, Nat.reduceBNe, reduceCtorEq, Int.reduceNeg]) (by simp only [↓RP, RQ, if_true, if_false, cond_true, cond_false, vcBin, bne, ne_eq, vcRet, resAll, resA, retOf, Int.reduceEq, Int.reduceNe, Int.reduceLT, Int.reduceLE, Int.reduceGT, Int.reduceGE, Int.reduceBEq, Int.reduceBNe, Nat.reduceLT, Nat.reduceLeDiff, Nat.reduceAdd, Nat.reduceSub, Nat.reduceMul, Nat.reduceEqDiff, Nat.reduceBEq, Nat.reduceBNe, reduceCtorEq, Int.reduceNeg, len_map, len_range])) (.cons (.same _ (.inl rfl)) .nil)) (.v _)) ?_ | refine vcQCall.same (Runs.pure (s34 _ T.length 1 (by omega) (by omega)) (.cons (Fz.all (by simp only [↓RP, RQ, if_true, if_false, cond_true, cond_false, vcBin, bne, ne_eq, vcRet, resAll, resA, retOf, Int.reduceEq, Int.reduceNe, Int.reduceLT, Int.reduceLE, Int.reduceGT, Int.reduceGE, Int.reduceBEq, Int.reduceBNe, Nat.reduceLT, Nat.reduceLeDiff, Nat.reduceAdd, Nat.reduceSub, Nat.reduceMul, Nat.reduceEqDiff, Nat.reduceBEq, Nat.reduceBNe, reduceCtorEq, Int.reduceNeg]) (by simp only [↓RP, RQ, if_true, if_false, cond_true, cond_false, vcBin, bne, ne_eq, vcRet, resAll, resA, retOf, Int.reduceEq, Int.reduceNe, Int.reduceLT, Int.reduceLE, Int.reduceGT, Int.reduceGE, Int.reduceBEq, Int.reduceBNe, Nat.reduceLT, Nat.reduceLeDiff, Nat.reduceAdd, Nat.reduceSub, Nat.reduceMul, Nat.reduceEqDiff, Nat.reduceBEq, Nat.reduceBNe, reduceCtorEq, Int.reduceNeg, len_map, len_range])) (.cons (.same _ (.inl rfl)) .nil)) (.v _)) ?_
        simp only [↓RP, RQ, if_true, if_false, cond_true, cond_false, vcBin, bne, ne_eq, vcRet, resAll, resA, retOf, Int.reduceEq, Int.reduceNe, Int.reduceLT, Int.reduceLE, Int.reduceGT, Int.reduceGE, Int.reduceBEq, Int.reduceBNe, Nat.reduceLT, Nat.reduceLeDiff, Nat.reduceAdd, Nat.reduceSub, Nat.reduceMul, Nat.reduceEqDiff, Nat.reduceBEq, Nat.reduceBNe, reduceCtorEq, Int.reduceNeg, nlt0, nlt0', int_refl, len_map, q_p, h_xs]
        refine vcCall.to (o17 _ xs hn_xs) ?_
        simp only [↓RP, RQ, if_true, if_false, cond_true, cond_false, vcBin, bne, ne_eq, vcRet, resAll, resA, retOf, Int.reduceEq, Int.reduceNe, Int.reduceLT, Int.reduceLE, Int.reduceGT, Int.reduceGE, Int.reduceBEq, Int.reduceBNe, Nat.reduceLT, Nat.reduceLeDiff, Nat.reduceAdd, Nat.reduceSub, Nat.reduceMul, Nat.reduceEqDiff, Nat.reduceBEq, Nat.reduceBNe, reduceCtorEq, Int.reduceNeg, len_map, q_p, h_xs]
        refine vcCall.to (Got.at (gi _) hc (.cons (Fz.all (by simp only [↓RP, RQ, if_true, if_false, cond_true, cond_false, vcBin, bne, ne_eq, vcRet, resAll, resA, retOf, Int.reduceEq, Int.reduceNe, Int.reduceLT, Int.reduceLE, Int.reduceGT, Int.reduceGE, Int.reduceBEq, Int.reduceBNe, Nat.reduceLT, Nat.reduceLeDiff, Nat.reduceAdd, Nat.reduceSub, Nat.reduceMul, Nat.reduceEqDiff, Nat.reduceBEq, Nat.reduceBNe, reduceCtorEq, Int.reduceNeg]) (len_map _ _).symm) (.cons (.same _ (.inl rfl)) (.cons (.same _ (.inl rfl)) (.cons (.same _ (.inl rfl)) .nil)))) (norefs_map Ntc.nr _) (noros_map Ntc.no _)) ?_
        simp only [↓RP, RQ, if_true, if_false, cond_true, cond_false, vcBin, bne, ne_eq, vcRet, resAll, resA, retOf, Int.reduceEq, Int.reduceNe, Int.reduceLT, Int.reduceLE, Int.reduceGT, Int.reduceGE, Int.reduceBEq, Int.reduceBNe, Nat.reduceLT, Nat.reduceLeDiff, Nat.reduceAdd, Nat.reduceSub, Nat.reduceMul, Nat.reduceEqDiff, Nat.reduceBEq, Nat.reduceBNe, reduceCtorEq, Int.reduceNeg, int_refl, hc, len_map, q_p, h_xs]
        first | refine vcCall.same (Runs.pure (s19 _ T hT) (.cons (Fz.all (by simp only [↓RP, RQ, if_true, if_false, cond_true, cond_false, vcBin, bne, ne_eq, vcRet, resAll, resA, retOf, Int.reduceEq, Int.reduceNe, Int.reduceLT, Int.reduceLE, Int.reduceGT, Int.reduceGE, Int.reduceBEq, Int.reduceBNe, Nat.reduceLT, Nat.reduceLeDiff, Nat.reduceAdd, Nat.reduceSub, Nat.reduceMul, Nat.reduceEqDiff, Nat.reduceBEq, Nat.reduceBNe, reduceCtorEq, Int.reduceNeg]) (len_map _ _).symm) (.cons (.same _ (.inl rfl)) .nil)) (.v _)) ?_ | refine vcQCall.same (Runs.pure (s19 _ T hT) (.cons (Fz.all (by simp only [↓RP, RQ, if_true, if_false, cond_true, cond_false, vcBin, bne, ne_eq, vcRet, resAll, resA, retOf, Int.reduceEq, Int.reduceNe, Int.reduceLT, Int.reduceLE, Int.reduceGT, Int.reduceGE, Int.reduceBEq, Int.reduceBNe, Nat.reduceLT, Nat.reduceLeDiff, Nat.reduceAdd, Nat.reduceSub, Nat.reduceMul, Nat.reduceEqDiff, Nat.reduceBEq, Nat.reduceBNe, reduceCtorEq, Int.reduceNeg]) (len_map _ _).symm) (.cons (.same _ (.inl rfl)) .nil)) (.v _)) ?_
        simp only [↓RP, RQ, if_true, if_false, cond_true, cond_false, vcBin, bne, ne_eq, vcRet, resAll, resA, retOf, Int.reduceEq, Int.reduceNe, Int.reduceLT, Int.reduceLE, Int.reduceGT, Int.reduceGE, Int.reduceBEq, Int.reduceBNe, Nat.reduceLT, Nat.reduceLeDiff, Nat.reduceAdd, Nat.reduceSub, Nat.reduceMul, Nat.reduceEqDiff, Nat.reduceBEq, Nat.reduceBNe, reduceCtorEq, Int.reduceNeg, int_refl, hc, nlt0, nlt0', len_map, q_p, h_xs]
        first | refine vcCall.same (Runs.pure (s34 _ T.length 1 (by omega) (by omega)) (.cons (Fz.all (by simp only [↓RP, RQ, if_true, if_false, cond_true, cond_false, vcBin, bne, ne_eq, vcRet, resAll, resA, retOf, Int.reduceEq, Int.reduceNe, Int.reduceLT, Int.reduceLE, Int.reduceGT, Int.reduceGE, Int.reduceBEq, Int.reduceBNe, Nat.reduceLT, Nat.reduceLeDiff, Nat.reduceAdd, Nat.reduceSub, Nat.reduceMul, Nat.reduceEqDiff, Nat.reduceBEq, Nat.reduceBNe, reduceCtorEq, Int.reduceNeg]) (by simp only [↓RP, RQ, if_true, if_false, cond_true, cond_false, vcBin, bne, ne_eq, vcRet, resAll, resA, retOf, Int.reduceEq, Int.reduceNe, Int.reduceLT, Int.reduceLE, Int.reduceGT, Int.reduceGE, Int.reduceBEq, Int.reduceBNe, Nat.reduceLT, Nat.reduceLeDiff, Nat.reduceAdd, Nat.reduceSub, Nat.reduceMul, Nat.reduceEqDiff, Nat.reduceBEq, Nat.reduceBNe, reduceCtorEq, Int.reduceNeg, len_map, len_range])) (.cons (.same _ (.inl rfl)) .nil)) (.v _)) ?_ | refine vcQCall.same (Runs.pure (s34 _ T.length 1 (by omega) (by omega)) (.cons (Fz.all (by simp only [↓RP, RQ, if_true, if_false, cond_true, cond_false, vcBin, bne, ne_eq, vcRet, resAll, resA, retOf, Int.reduceEq, Int.reduceNe, Int.reduceLT, Int.reduceLE, Int.reduceGT, Int.reduceGE, Int.reduceBEq, Int.reduceBNe, Nat.reduceLT, Nat.reduceLeDiff, Nat.reduceAdd, Nat.reduceSub, Nat.reduceMul, Nat.reduceEqDiff, Nat.reduceBEq, Nat.reduceBNe, reduceCtorEq, Int.reduceNeg]) (by simp only [↓RP, RQ, if_true, if_false, cond_true, cond_false, vcBin, bne, ne_eq, vcRet, resAll, resA, retOf, Int.reduceEq, Int.reduceNe, Int.reduceLT, Int.reduceLE, Int.reduceGT, Int.reduceGE, Int.reduceBEq, Int.reduceBNe, Nat.reduceLT, Nat.reduceLeDiff, Nat.reduceAdd, Nat.reduceSub, Nat.reduceMul, Nat.reduceEqDiff, Nat.reduceBEq, Nat.reduceBNe, reduceCtorEq, Int.reduceNeg, len_map, len_range])) (.cons (.same _ (.inl rfl)) .nil)) (.v _)) ?_
        simp only [↓RP, RQ, if_true, if_false, cond_true, cond_false, vcBin, bne, ne_eq, vcRet, resAll, resA, retOf, Int.reduceEq, Int.reduceNe, Int.reduceLT, Int.reduceLE, Int.reduceGT, Int.reduceGE, Int.reduceBEq, Int.reduceBNe, Nat.reduceLT, Nat.reduceLeDiff, Nat.reduceAdd, Nat.reduceSub, Nat.reduceMul, Nat.reduceEqDiff, Nat.reduceBEq, Nat.reduceBNe, reduceCtorEq, Int.reduceNeg, nlt0, nlt0', int_refl, len_map, q_p, h_xs]
      · skip
        have hnil : T = [] := hemp hc
        subst hnil
        refine vcCall.to (Got.no (gi _) hc (.cons (Fz.all (by simp only [↓RP, RQ, if_true, if_false, cond_true, cond_false, vcBin, bne, ne_eq, vcRet, resAll, resA, retOf, Int.reduceEq, Int.reduceNe, Int.reduceLT, Int.reduceLE, Int.reduceGT, Int.reduceGE, Int.reduceBEq, Int.reduceBNe, Nat.reduceLT, Nat.reduceLeDiff, Nat.reduceAdd, Nat.reduceSub, Nat.reduceMul, Nat.reduceEqDiff, Nat.reduceBEq, Nat.reduceBNe, reduceCtorEq, Int.reduceNeg]) (len_map _ _).symm) (.cons (.same _ (.inl rfl)) (.cons (.same _ (.inl rfl)) (.cons (.same _ (.inl rfl)) .nil))))) ?_
        simp only [↓RP, RQ, if_true, if_false, cond_true, cond_false, vcBin, bne, ne_eq, vcRet, resAll, resA, retOf, Int.reduceEq, Int.reduceNe, Int.reduceLT, Int.reduceLE, Int.reduceGT, Int.reduceGE, Int.reduceBEq, Int.reduceBNe, Nat.reduceLT, Nat.reduceLeDiff, Nat.reduceAdd, Nat.reduceSub, Nat.reduceMul, Nat.reduceEqDiff, Nat.reduceBEq, Nat.reduceBNe, reduceCtorEq, Int.reduceNeg, int_refl, hc, len_map, q_p, h_xs]
        first | refine vcCall.same (Runs.pure (s19 _ [] hT) (.cons (.nil _) (.cons (.same _ (.inl rfl)) .nil)) (.v _)) ?_ | refine vcQCall.same (Runs.pure (s19 _ [] hT) (.cons (.nil _) (.cons (.same _ (.inl rfl)) .nil)) (.v _)) ?_
        simp only [↓RP, RQ, if_true, if_false, cond_true, cond_false, vcBin, bne, ne_eq, vcRet, resAll, resA, retOf, Int.reduceEq, Int.reduceNe, Int.reduceLT, Int.reduceLE, Int.reduceGT, Int.reduceGE, Int.reduceBEq, Int.reduceBNe, Nat.reduceLT, Nat.reduceLeDiff, Nat.reduceAdd, Nat.reduceSub, Nat.reduceMul, Nat.reduceEqDiff, Nat.reduceBEq, Nat.reduceBNe, reduceCtorEq, Int.reduceNeg, int_refl, hc, nlt0, nlt0', len_map, q_p, h_xs]
        refine vcCall.to (o17 _ xs hn_xs) ?_
        simp only [↓RP, RQ, if_true, if_false, cond_true, cond_false, vcBin, bne, ne_eq, vcRet, resAll, resA, retOf, Int.reduceEq, Int.reduceNe, Int.reduceLT, Int.reduceLE, Int.reduceGT, Int.reduceGE, Int.reduceBEq, Int.reduceBNe, Nat.reduceLT, Nat.reduceLeDiff, Nat.reduceAdd, Nat.reduceSub, Nat.reduceMul, Nat.reduceEqDiff, Nat.reduceBEq, Nat.reduceBNe, reduceCtorEq, Int.reduceNeg, len_map, q_p, h_xs]
        first | refine vcCall.same (Runs.pure (s19 _ xs hn_xs) (.cons (Fz.all (by simp only [↓RP, RQ, if_true, if_false, cond_true, cond_false, vcBin, bne, ne_eq, vcRet, resAll, resA, retOf, Int.reduceEq, Int.reduceNe, Int.reduceLT, Int.reduceLE, Int.reduceGT, Int.reduceGE, Int.reduceBEq, Int.reduceBNe, Nat.reduceLT, Nat.reduceLeDiff, Nat.reduceAdd, Nat.reduceSub, Nat.reduceMul, Nat.reduceEqDiff, Nat.reduceBEq, Nat.reduceBNe, reduceCtorEq, Int.reduceNeg]) (len_map _ _).symm) (.cons (Fz.all (by simp only [↓RP, RQ, if_true, if_false, cond_true, cond_false, vcBin, bne, ne_eq, vcRet, resAll, resA, retOf, Int.reduceEq, Int.reduceNe, Int.reduceLT, Int.reduceLE, Int.reduceGT, Int.reduceGE, Int.reduceBEq, Int.reduceBNe, Nat.reduceLT, Nat.reduceLeDiff, Nat.reduceAdd, Nat.reduceSub, Nat.reduceMul, Nat.reduceEqDiff, Nat.reduceBEq, Nat.reduceBNe, reduceCtorEq, Int.reduceNeg]) (len_map _ _).symm) .nil)) (.v _)) ?_ | refine vcQCall.same (Runs.pure (s19 _ xs hn_xs) (.cons (Fz.all (by simp only [↓RP, RQ, if_true, if_false, cond_true, cond_false, vcBin, bne, ne_eq, vcRet, resAll, resA, retOf, Int.reduceEq, Int.reduceNe, Int.reduceLT, Int.reduceLE, Int.reduceGT, Int.reduceGE, Int.reduceBEq, Int.reduceBNe, Nat.reduceLT, Nat.reduceLeDiff, Nat.reduceAdd, Nat.reduceSub, Nat.reduceMul, Nat.reduceEqDiff, Nat.reduceBEq, Nat.reduceBNe, reduceCtorEq, Int.reduceNeg]) (len_map _ _).symm) (.cons (Fz.all (by simp only [↓RP, RQ, if_true, if_false, cond_true, cond_false, vcBin, bne, ne_eq, vcRet, resAll, resA, retOf, Int.reduceEq, Int.reduceNe, Int.reduceLT, Int.reduceLE, Int.reduceGT, Int.reduceGE, Int.reduceBEq, Int.reduceBNe, Nat.reduceLT, Nat.reduceLeDiff, Nat.reduceAdd, Nat.reduceSub, Nat.reduceMul, Nat.reduceEqDiff, Nat.reduceBEq, Nat.reduceBNe, reduceCtorEq, Int.reduceNeg]) (len_map _ _).symm) .nil)) (.v _)) ?_
        simp only [↓RP, RQ, if_true, if_false, cond_true, cond_false, vcBin, bne, ne_eq, vcRet, resAll, resA, retOf, Int.reduceEq, Int.reduceNe, Int.reduceLT, Int.reduceLE, Int.reduceGT, Int.reduceGE, Int.reduceBEq, Int.reduceBNe, Nat.reduceLT, Nat.reduceLeDiff, Nat.reduceAdd, Nat.reduceSub, Nat.reduceMul, Nat.reduceEqDiff, Nat.reduceBEq, Nat.reduceBNe, reduceCtorEq, Int.reduceNeg, len_map, q_p, h_xs]
        refine vcCall.to (Runs.mut (by simp only [↓RP, RQ, if_true, if_false, cond_true, cond_false, vcBin, bne, ne_eq, vcRet, resAll, resA, retOf, Int.reduceEq, Int.reduceNe, Int.reduceLT, Int.reduceLE, Int.reduceGT, Int.reduceGE, Int.reduceBEq, Int.reduceBNe, Nat.reduceLT, Nat.reduceLeDiff, Nat.reduceAdd, Nat.reduceSub, Nat.reduceMul, Nat.reduceEqDiff, Nat.reduceBEq, Nat.reduceBNe, reduceCtorEq, Int.reduceNeg]) (flat_range fun i => mkNtc_flat _) (fun M hM => m29 M _ hM xs (1) (by omega) (by omega))) ?_
        simp only [↓RP, RQ, if_true, if_false, cond_true, cond_false, vcBin, bne, ne_eq, vcRet, resAll, resA, retOf, Int.reduceEq, Int.reduceNe, Int.reduceLT, Int.reduceLE, Int.reduceGT, Int.reduceGE, Int.reduceBEq, Int.reduceBNe, Nat.reduceLT, Nat.reduceLeDiff, Nat.reduceAdd, Nat.reduceSub, Nat.reduceMul, Nat.reduceEqDiff, Nat.reduceBEq, Nat.reduceBNe, reduceCtorEq, Int.reduceNeg, nlt0, nlt0', len_map, q_p, h_xs]
        first | refine vcCall.same (Runs.pure (s19 _ [] hT) (.cons (.nil _) (.cons (.same _ (.inl rfl)) .nil)) (.v _)) ?_ | refine vcQCall.same (Runs.pure (s19 _ [] hT) (.cons (.nil _) (.cons (.same _ (.inl rfl)) .nil)) (.v _)) ?_
        simp only [↓RP, RQ, if_true, if_false, cond_true, cond_false, vcBin, bne, ne_eq, vcRet, resAll, resA, retOf, Int.reduceEq, Int.reduceNe, Int.reduceLT, Int.reduceLE, Int.reduceGT, Int.reduceGE, Int.reduceBEq, Int.reduceBNe, Nat.reduceLT, Nat.reduceLeDiff, Nat.reduceAdd, Nat.reduceSub, Nat.reduceMul, Nat.reduceEqDiff, Nat.reduceBEq, Nat.reduceBNe, reduceCtorEq, Int.reduceNeg, int_refl, hc, nlt0, nlt0', len_map, q_p, h_xs]
        first | refine vcCall.same (Runs.pure (n29 _ 1) (.cons (.nil _) (.cons (.same _ (.inl rfl)) .nil)) (.v _)) ?_ | refine vcQCall.same (Runs.pure (n29 _ 1) (.cons (.nil _) (.cons (.same _ (.inl rfl)) .nil)) (.v _)) ?_
        simp only [↓RP, RQ, if_true, if_false, cond_true, cond_false, vcBin, bne, ne_eq, vcRet, resAll, resA, retOf, Int.reduceEq, Int.reduceNe, Int.reduceLT, Int.reduceLE, Int.reduceGT, Int.reduceGE, Int.reduceBEq, Int.reduceBNe, Nat.reduceLT, Nat.reduceLeDiff, Nat.reduceAdd, Nat.reduceSub, Nat.reduceMul, Nat.reduceEqDiff, Nat.reduceBEq, Nat.reduceBNe, reduceCtorEq, Int.reduceNeg, nlt0, nlt0', len_map, q_p, h_xs]
        first | refine vcCall.same (Runs.pure (s34 _ 0 1 (by omega) (by omega)) (.cons (.nil _) (.cons (.same _ (.inl rfl)) .nil)) (.v _)) ?_ | refine vcQCall.same (Runs.pure (s34 _ 0 1 (by omega) (by omega)) (.cons (.nil _) (.cons (.same _ (.inl rfl)) .nil)) (.v _)) ?_
        simp only [↓RP, RQ, if_true, if_false, cond_true, cond_false, vcBin, bne, ne_eq, vcRet, resAll, resA, retOf, Int.reduceEq, Int.reduceNe, Int.reduceLT, Int.reduceLE, Int.reduceGT, Int.reduceGE, Int.reduceBEq, Int.reduceBNe, Nat.reduceLT, Nat.reduceLeDiff, Nat.reduceAdd, Nat.reduceSub, Nat.reduceMul, Nat.reduceEqDiff, Nat.reduceBEq, Nat.reduceBNe, reduceCtorEq, Int.reduceNeg, nlt0, nlt0', int_refl, len_map, q_p, h_xs]
        refine vcCall.to (o17 _ xs hn_xs) ?_
        simp only [↓RP, RQ, if_true, if_false, cond_true, cond_false, vcBin, bne, ne_eq, vcRet, resAll, resA, retOf, Int.reduceEq, Int.reduceNe, Int.reduceLT, Int.reduceLE, Int.reduceGT, Int.reduceGE, Int.reduceBEq, Int.reduceBNe, Nat.reduceLT, Nat.reduceLeDiff, Nat.reduceAdd, Nat.reduceSub, Nat.reduceMul, Nat.reduceEqDiff, Nat.reduceBEq, Nat.reduceBNe, reduceCtorEq, Int.reduceNeg, len_map, q_p, h_xs]
        refine vcCall.to (Got.no (gi _) hc (.cons (Fz.all (by simp only [↓RP, RQ, if_true, if_false, cond_true, cond_false, vcBin, bne, ne_eq, vcRet, resAll, resA, retOf, Int.reduceEq, Int.reduceNe, Int.reduceLT, Int.reduceLE, Int.reduceGT, Int.reduceGE, Int.reduceBEq, Int.reduceBNe, Nat.reduceLT, Nat.reduceLeDiff, Nat.reduceAdd, Nat.reduceSub, Nat.reduceMul, Nat.reduceEqDiff, Nat.reduceBEq, Nat.reduceBNe, reduceCtorEq, Int.reduceNeg]) (len_map _ _).symm) (.cons (.same _ (.inl rfl)) (.cons (.same _ (.inl rfl)) (.cons (.same _ (.inl rfl)) .nil))))) ?_
        simp only [↓RP, RQ, if_true, if_false, cond_true, cond_false, vcBin, bne, ne_eq, vcRet, resAll, resA, retOf, Int.reduceEq, Int.reduceNe, Int.reduceLT, Int.reduceLE, Int.reduceGT, Int.reduceGE, Int.reduceBEq, Int.reduceBNe, Nat.reduceLT, Nat.reduceLeDiff, Nat.reduceAdd, Nat.reduceSub, Nat.reduceMul, Nat.reduceEqDiff, Nat.reduceBEq, Nat.reduceBNe, reduceCtorEq, Int.reduceNeg, int_refl, hc, len_map, q_p, h_xs]
        first | refine vcCall.same (Runs.pure (s19 _ [] hT) (.cons (.nil _) (.cons (.same _ (.inl rfl)) .nil)) (.v _)) ?_ | refine vcQCall.same (Runs.pure (s19 _ [] hT) (.cons (.nil _) (.cons (.same _ (.inl rfl)) .nil)) (.v _)) ?_
        simp only [↓RP, RQ, if_true, if_false, cond_true, cond_false, vcBin, bne, ne_eq, vcRet, resAll, resA, retOf, Int.reduceEq, Int.reduceNe, Int.reduceLT, Int.reduceLE, Int.reduceGT, Int.reduceGE, Int.reduceBEq, Int.reduceBNe, Nat.reduceLT, Nat.reduceLeDiff, Nat.reduceAdd, Nat.reduceSub, Nat.reduceMul, Nat.reduceEqDiff, Nat.reduceBEq, Nat.reduceBNe, reduceCtorEq, Int.reduceNeg, int_refl, hc, nlt0, nlt0', len_map, q_p, h_xs]
        first | refine vcCall.same (Runs.pure (s34 _ 0 1 (by omega) (by omega)) (.cons (.nil _) (.cons (.same _ (.inl rfl)) .nil)) (.v _)) ?_ | refine vcQCall.same (Runs.pure (s34 _ 0 1 (by omega) (by omega)) (.cons (.nil _) (.cons (.same _ (.inl rfl)) .nil)) (.v _)) ?_
        simp only [↓RP, RQ, if_true, if_false, cond_true, cond_false, vcBin, bne, ne_eq, vcRet, resAll, resA, retOf, Int.reduceEq, Int.reduceNe, Int.reduceLT, Int.reduceLE, Int.reduceGT, Int.reduceGE, Int.reduceBEq, Int.reduceBNe, Nat.reduceLT, Nat.reduceLeDiff, Nat.reduceAdd, Nat.reduceSub, Nat.reduceMul, Nat.reduceEqDiff, Nat.reduceBEq, Nat.reduceBNe, reduceCtorEq, Int.reduceNeg, nlt0, nlt0', int_refl, len_map, q_p, h_xs]
end Go.Proofs.Ytpaflfaokgapgaa
