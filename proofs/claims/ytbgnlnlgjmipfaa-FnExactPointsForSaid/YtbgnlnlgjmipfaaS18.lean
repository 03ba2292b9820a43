/- Contracts about parts that are shared out, and about awards. -/
import Derived.Test.YtbgnlnlgjmipfaaK4
import Derived.Test.YtbgnlnlgjmipfaaS11
import Derived.Test.YtbgnlnlgjmipfaaSM
set_option linter.unusedVariables false
set_option linter.unusedSimpArgs false
namespace Go.Proofs.Ytbgnlnlgjmipfaa
open Go.Abs
theorem wrap_sub (x p : Int) : IntKind.i64.wrap (IntKind.i64.wrap x - p) = IntKind.i64.wrap (x - p) := by
  simp only [IntKind.wrap, IntKind.bits, IntKind.signed]; simp; split <;> split <;> split <;> omega
theorem wrap_sub2 (a x : Int) : IntKind.i64.wrap (a - IntKind.i64.wrap x) = IntKind.i64.wrap (a - x) := by
  simp only [IntKind.wrap, IntKind.bits, IntKind.signed]; simp; split <;> split <;> split <;> omega
theorem subs_sum : ∀ (ps : List Int) (a s : Int), ps.foldl (fun l p => IntKind.i64.wrap (l - p)) (IntKind.i64.wrap (a - s)) = IntKind.i64.wrap (a - ps.foldl (fun l p => IntKind.i64.wrap (l + p)) s)
  | [], a, s => rfl
  | p :: ps, a, s => by
    rw [List.foldl_cons, List.foldl_cons, wrap_sub, show a - s - p = a - (s + p) by omega, ← wrap_sub2 a (s + p)]
    exact subs_sum ps a _
/-- The greatest of some numbers, and where it first stands. -/
def mxF (a b : Int) : Int := if b > a then b else a
def mxL : List Int → Int
  | [] => 0
  | x :: xs => xs.foldl mxF x
def fi (p : Int → Bool) : List Int → Nat
  | [] => 0
  | x :: xs => bif p x then 0 else fi p xs + 1
def am (xs : List Int) : Nat := fi (fun x => mxL xs == x) xs
theorem mx_fold : ∀ (l : List Int) (v : Int), v ≤ l.foldl mxF v ∧ (∀ x, x ∈ l → x ≤ l.foldl mxF v) ∧ (l.foldl mxF v = v ∨ l.foldl mxF v ∈ l)
  | [], v => ⟨Int.le_refl _, fun x h => by (cases h), .inl rfl⟩
  | x :: l, v => by
    obtain ⟨h1, h2, h3⟩ := mx_fold l (mxF v x)
    have h4 : v ≤ mxF v x ∧ x ≤ mxF v x ∧ (mxF v x = v ∨ mxF v x = x) := by unfold mxF; split <;> omega
    rw [List.foldl_cons]
    refine ⟨by omega, fun y hy => ?_, ?_⟩
    · rcases List.mem_cons.1 hy with rfl | hy
      · omega
      · exact h2 y hy
    · rcases h3 with h3 | h3
      · rcases h4.2.2 with h5 | h5
        · left; rw [h3, h5]
        · right; rw [h3, h5]; exact List.mem_cons_self ..
      · right; exact List.mem_cons_of_mem _ h3
theorem mxL_mem {xs : List Int} (h : xs ≠ []) : mxL xs ∈ xs := by
  cases xs with
  | nil => exact absurd rfl h
  | cons x l =>
    rcases (mx_fold l x).2.2 with h1 | h1
    · show l.foldl mxF x ∈ _; rw [h1]; exact List.mem_cons_self ..
    · exact List.mem_cons_of_mem _ h1
theorem fi_lt (p : Int → Bool) : ∀ (xs : List Int), (∃ x, x ∈ xs ∧ p x = true) → fi p xs < xs.length ∧ ∀ j : Int, idx p xs j = j + (fi p xs : Nat)
  | [], ⟨x, h, _⟩ => by cases h
  | x :: xs, ⟨y, hy, hp⟩ => by
    cases h : p x with
    | true => simp [fi, idx, h]
    | false =>
      have : ∃ y, y ∈ xs ∧ p y = true := ⟨y, (List.mem_cons.1 hy).resolve_left (fun e => by rw [e, h] at hp; cases hp), hp⟩
      obtain ⟨h1, h2⟩ := fi_lt p xs this
      simp only [fi, idx, h, cond_false, List.length_cons]
      exact ⟨by omega, fun j => by rw [h2]; omega⟩
theorem am_lt {xs : List Int} (h : xs ≠ []) : am xs < xs.length ∧ idx (fun x => mxL xs == x) xs 0 = (am xs : Nat) := by
  obtain ⟨h1, h2⟩ := fi_lt (fun x => mxL xs == x) xs ⟨_, mxL_mem h, by simp⟩
  exact ⟨h1, by rw [h2]; unfold am; omega⟩
/-- The search of the reference. -/
def bst : List Int → Nat → Nat → Int → Nat
  | [], _, b, _ => b
  | x :: xs, i, b, v => if x > v then bst xs (i + 1) i x else bst xs (i + 1) b v
theorem bst_eq : ∀ (l : List Int) (i b : Nat) (v : Int), bst l i b v = if l.foldl mxF v = v then b else i + fi (fun x => l.foldl mxF v == x) l
  | [], i, b, v => by simp [bst]
  | x :: l, i, b, v => by
    rw [bst, List.foldl_cons]
    by_cases h : x > v
    · have hm : mxF v x = x := by unfold mxF; rw [if_pos h]
      obtain ⟨h1, _⟩ := mx_fold l x
      rw [if_pos h, bst_eq l (i + 1) i x, hm]
      by_cases h2 : l.foldl mxF x = x
      · rw [if_pos h2, if_neg (by omega), h2]; simp [fi]
      · rw [if_neg h2, if_neg (by omega)]
        have : (l.foldl mxF x == x) = false := by simpa using h2
        rw [fi, this, cond_false]; omega
    · have hm : mxF v x = v := by unfold mxF; rw [if_neg h]
      obtain ⟨h1, _⟩ := mx_fold l v
      rw [if_neg h, bst_eq l (i + 1) b v, hm]
      by_cases h2 : l.foldl mxF v = v
      · rw [if_pos h2, if_pos h2]
      · rw [if_neg h2, if_neg h2]
        have : (l.foldl mxF v == x) = false := by simp; omega
        rw [fi, this, cond_false]; omega
theorem bst_am {xs : List Int} {x : Int} (h : xs[0]? = some x) : bst xs 0 0 x = am xs := by
  cases xs with
  | nil => cases h
  | cons y l =>
    have : y = x := by simpa using h
    subst this
    have e : (y :: l).foldl mxF y = mxL (y :: l) := by
      show l.foldl mxF (mxF y y) = _
      have : mxF y y = y := by unfold mxF; split <;> omega
      rw [this]; rfl
    rw [bst_eq, e, Nat.zero_add]
    split
    · rename_i h2
      unfold am; rw [h2]; simp [fi]
    · rfl
/-- What is left is handed out, one to the greatest rest at a time. -/
def shGo : Nat → List Int → List Int → List Int
  | 0, ps, _ => ps
  | n + 1, ps, rs => shGo n (ps.set (am rs) (IntKind.i64.wrap (ps.getD (am rs) 0 + 1))) (rs.set (am rs) (-1))
theorem shGo_len : ∀ (n : Nat) (ps rs : List Int), (shGo n ps rs).length = ps.length
  | 0, _, _ => rfl
  | n + 1, ps, rs => by rw [shGo, shGo_len n]; simp
def shP (t W w : Int) : Int := IntKind.i64.wrap (Int.tdiv (IntKind.i64.wrap (t * w)) W)
def shR (t W w : Int) : Int := Int.tmod (IntKind.i64.wrap (t * w)) W
def shL (t : Int) (ws : List Int) : Int := IntKind.i64.wrap (t - sumW (ws.map (shP t (sumW ws))))
def shr (t : Int) (ws : List Int) : List Int := shGo (shL t ws).toNat (ws.map (shP t (sumW ws))) (ws.map (shR t (sumW ws)))
theorem shr_len (t : Int) (ws : List Int) : (shr t ws).length = ws.length := by rw [shr, shGo_len, List.length_map]
theorem shL_b (t : Int) (ws : List Int) : shL t ws < 9223372036854775808 := by
  unfold shL
  simp only [IntKind.wrap, IntKind.bits, IntKind.signed]; simp; split <;> omega
theorem grow_at {α : Type} (f : α → List AV) {xs : List α} {i : Nat} {x : α} (hx : xs[i]? = some x) : (grow f xs (i + 1)).getD i [] = f x := by
  simp only [grow, List.getD_eq_getElem?_getD, List.getElem?_map, List.getElem?_take]
  rw [if_pos (by omega), hx]; rfl
theorem grow_map {α : Type} (f : α → Int) (xs : List α) : grow (fun x => int1 (f x)) xs xs.length = (xs.map f).map int1 := by rw [grow_end, List.map_map]; rfl
theorem s165 (N : Nat) (xs : List Int) (hn : xs.length ≤ 1048576) (h0 : xs ≠ []) : Runs Try.prog 165 [.ro 1 (xs.map int1)] (emp N) fun r H' => r = .v (.int .i64 (mxL xs)) ∧ H' = emp N := by
  have hm : xs.length ≤ maxLen := by have : maxLen = 9223372036854775807 := rfl; omega
  have hpos : 0 < xs.length := List.length_pos_iff.2 h0
  have hnl : decide ((xs.length : Int) < 1) = false := decF (by omega)
  obtain ⟨x0, hx0, hx1, _⟩ := at_i int1 xs hpos
  have hp0 : ((0 : Int) < (xs.length : Int)) = True := by simp; omega
  refine C165_fn ?_
  unfold C165
  simp only [↓RP, RQ, if_true, if_false, cond_true, cond_false, vcBin, bne, ne_eq, vcRet, resAll, resA, retOf, Int.reduceEq, Int.reduceNe, Int.reduceLT, Int.reduceLE, Int.reduceGT, Int.reduceGE, Int.reduceBEq, Int.reduceBNe, Nat.reduceLT, Nat.reduceLeDiff, Nat.reduceAdd, Nat.reduceSub, Nat.reduceMul, Nat.reduceEqDiff, Nat.reduceBEq, Nat.reduceBNe, reduceCtorEq, Int.reduceNeg, len_map, hnl, hp0, Int.toNat_zero, hx1, int1, Int.le_refl]
  have hM : mxL xs = (xs.drop 1).foldl mxF x0 := by
    cases xs with
    | nil => exact absurd rfl h0
    | cons y l => have : y = x0 := by simpa using hx0
                  subst this; rfl
  refine vcLoop.st (σ := Nat × Int) (1, x0) (fun s => s.1 ≤ xs.length ∧ mxL xs = (xs.drop s.1).foldl mxF s.2) (fun s => xs.length - s.1) (fun s => hl N [])
    (fun s => [.ro 1 (xs.map int1), .any, .any, .v (.int .i64 s.2), .v (.int .i64 s.1), .any, .any, .any, .any, .any, .any, .any, .any, .any, .any, .any, .any, .any, .any, .any, .any, .any, .any, .any, .any]) ⟨hpos, hM⟩ (Dr.refl _) (by simp only [↓RP, RQ, if_true, if_false, cond_true, cond_false, vcBin, bne, ne_eq, vcRet, resAll, resA, retOf, Int.reduceEq, Int.reduceNe, Int.reduceLT, Int.reduceLE, Int.reduceGT, Int.reduceGE, Int.reduceBEq, Int.reduceBNe, Nat.reduceLT, Nat.reduceLeDiff, Nat.reduceAdd, Nat.reduceSub, Nat.reduceMul, Nat.reduceEqDiff, Nat.reduceBEq, Nat.reduceBNe, reduceCtorEq, Int.reduceNeg, Int.natCast_one]) ?_
  rintro ⟨i, v⟩ ⟨hi, hg⟩
  simp only [↓RP, RQ, if_true, if_false, cond_true, cond_false, vcBin, bne, ne_eq, vcRet, resAll, resA, retOf, Int.reduceEq, Int.reduceNe, Int.reduceLT, Int.reduceLE, Int.reduceGT, Int.reduceGE, Int.reduceBEq, Int.reduceBNe, Nat.reduceLT, Nat.reduceLeDiff, Nat.reduceAdd, Nat.reduceSub, Nat.reduceMul, Nat.reduceEqDiff, Nat.reduceBEq, Nat.reduceBNe, reduceCtorEq, Int.reduceNeg, len_map]
  refine vcIf.dec (fun h' => ?_) (fun h' => ?_)
  · have hlt : i < xs.length := by simpa using h'
    obtain ⟨x, hy0, hy1, hd⟩ := at_i int1 xs hlt
    rw [hd, List.foldl_cons] at hg
    simp only [↓RP, RQ, if_true, if_false, cond_true, cond_false, vcBin, bne, ne_eq, vcRet, resAll, resA, retOf, Int.reduceEq, Int.reduceNe, Int.reduceLT, Int.reduceLE, Int.reduceGT, Int.reduceGE, Int.reduceBEq, Int.reduceBNe, Nat.reduceLT, Nat.reduceLeDiff, Nat.reduceAdd, Nat.reduceSub, Nat.reduceMul, Nat.reduceEqDiff, Nat.reduceBEq, Nat.reduceBNe, reduceCtorEq, Int.reduceNeg, len_map, nn, tn, lt_cast hlt, hy1, int1, w_succ hlt hm]
    exact ⟨(i + 1, mxF v x), by show xs.length - (i + 1) < xs.length - i; omega, ⟨hlt, hg⟩, by simp only [↓RP, RQ, if_true, if_false, cond_true, cond_false, vcBin, bne, ne_eq, vcRet, resAll, resA, retOf, Int.reduceEq, Int.reduceNe, Int.reduceLT, Int.reduceLE, Int.reduceGT, Int.reduceGE, Int.reduceBEq, Int.reduceBNe, Nat.reduceLT, Nat.reduceLeDiff, Nat.reduceAdd, Nat.reduceSub, Nat.reduceMul, Nat.reduceEqDiff, Nat.reduceBEq, Nat.reduceBNe, reduceCtorEq, Int.reduceNeg, mxF]⟩
  · have hge : i = xs.length := by simp at h'; omega
    subst hge
    rw [List.drop_length, List.foldl_nil] at hg
    simp only [↓RP, RQ, if_true, if_false, cond_true, cond_false, vcBin, bne, ne_eq, vcRet, resAll, resA, retOf, Int.reduceEq, Int.reduceNe, Int.reduceLT, Int.reduceLE, Int.reduceGT, Int.reduceGE, Int.reduceBEq, Int.reduceBNe, Nat.reduceLT, Nat.reduceLeDiff, Nat.reduceAdd, Nat.reduceSub, Nat.reduceMul, Nat.reduceEqDiff, Nat.reduceBEq, Nat.reduceBNe, reduceCtorEq, Int.reduceNeg, hg]
theorem s164 (N : Nat) (xs : List Int) (hn : xs.length ≤ 1048576) (v : Int) : Runs Try.prog 164 [.ro 1 (xs.map int1), .v (.int .i64 v)] (emp N) fun r H' => r = .v (.int .i64 (idx (fun x => v == x) xs 0)) ∧ H' = emp N := by
  have hm : xs.length ≤ maxLen := by have : maxLen = 9223372036854775807 := rfl; omega
  refine C164_fn ?_
  unfold C164
  simp only [↓RP, RQ, if_true, if_false, cond_true, cond_false, vcBin, bne, ne_eq, vcRet, resAll, resA, retOf, Int.reduceEq, Int.reduceNe, Int.reduceLT, Int.reduceLE, Int.reduceGT, Int.reduceGE, Int.reduceBEq, Int.reduceBNe, Nat.reduceLT, Nat.reduceLeDiff, Nat.reduceAdd, Nat.reduceSub, Nat.reduceMul, Nat.reduceEqDiff, Nat.reduceBEq, Nat.reduceBNe, reduceCtorEq, Int.reduceNeg, len_map]
  refine vcLoop.st (σ := Nat) 0 (fun i => i ≤ xs.length ∧ idx (fun x => v == x) xs 0 = idx (fun x => v == x) (xs.drop i) i) (fun i => xs.length - i) (fun i => hl N [])
    (fun i => [.ro 1 (xs.map int1), .v (.int .i64 v), .any, .any, .any, .any, .any, .v (.int .i64 xs.length), .v (.int .i64 i), .any, .any, .any, .any, .any, .any, .any, .any, .any, .any]) ⟨Nat.zero_le _, rfl⟩ (Dr.refl _) (by simp only [↓RP, RQ, if_true, if_false, cond_true, cond_false, vcBin, bne, ne_eq, vcRet, resAll, resA, retOf, Int.reduceEq, Int.reduceNe, Int.reduceLT, Int.reduceLE, Int.reduceGT, Int.reduceGE, Int.reduceBEq, Int.reduceBNe, Nat.reduceLT, Nat.reduceLeDiff, Nat.reduceAdd, Nat.reduceSub, Nat.reduceMul, Nat.reduceEqDiff, Nat.reduceBEq, Nat.reduceBNe, reduceCtorEq, Int.reduceNeg]) ?_
  rintro i ⟨hi, hg⟩
  simp only [↓RP, RQ, if_true, if_false, cond_true, cond_false, vcBin, bne, ne_eq, vcRet, resAll, resA, retOf, Int.reduceEq, Int.reduceNe, Int.reduceLT, Int.reduceLE, Int.reduceGT, Int.reduceGE, Int.reduceBEq, Int.reduceBNe, Nat.reduceLT, Nat.reduceLeDiff, Nat.reduceAdd, Nat.reduceSub, Nat.reduceMul, Nat.reduceEqDiff, Nat.reduceBEq, Nat.reduceBNe, reduceCtorEq, Int.reduceNeg, len_map]
  refine vcIf.dec (fun h' => ?_) (fun h' => ?_)
  · have hlt : i < xs.length := by simpa using h'
    obtain ⟨x, hx0, hx, hd⟩ := at_i int1 xs hlt
    rw [hd, idx] at hg
    simp only [↓RP, RQ, if_true, if_false, cond_true, cond_false, vcBin, bne, ne_eq, vcRet, resAll, resA, retOf, Int.reduceEq, Int.reduceNe, Int.reduceLT, Int.reduceLE, Int.reduceGT, Int.reduceGE, Int.reduceBEq, Int.reduceBNe, Nat.reduceLT, Nat.reduceLeDiff, Nat.reduceAdd, Nat.reduceSub, Nat.reduceMul, Nat.reduceEqDiff, Nat.reduceBEq, Nat.reduceBNe, reduceCtorEq, Int.reduceNeg, len_map, nn, tn, lt_cast hlt, hx, int1]
    first | refine vcIf.of (fun h2 => ?_) (fun h2 => ?_) | refine vcQIf.of (fun h2 => ?_) (fun h2 => ?_)
    · rw [h2, cond_true] at hg
      simp only [↓RP, RQ, if_true, if_false, cond_true, cond_false, vcBin, bne, ne_eq, vcRet, resAll, resA, retOf, Int.reduceEq, Int.reduceNe, Int.reduceLT, Int.reduceLE, Int.reduceGT, Int.reduceGE, Int.reduceBEq, Int.reduceBNe, Nat.reduceLT, Nat.reduceLeDiff, Nat.reduceAdd, Nat.reduceSub, Nat.reduceMul, Nat.reduceEqDiff, Nat.reduceBEq, Nat.reduceBNe, reduceCtorEq, Int.reduceNeg, h2, hg]
    · rw [h2, cond_false] at hg
      simp only [↓RP, RQ, if_true, if_false, cond_true, cond_false, vcBin, bne, ne_eq, vcRet, resAll, resA, retOf, Int.reduceEq, Int.reduceNe, Int.reduceLT, Int.reduceLE, Int.reduceGT, Int.reduceGE, Int.reduceBEq, Int.reduceBNe, Nat.reduceLT, Nat.reduceLeDiff, Nat.reduceAdd, Nat.reduceSub, Nat.reduceMul, Nat.reduceEqDiff, Nat.reduceBEq, Nat.reduceBNe, reduceCtorEq, Int.reduceNeg, h2, w_succ hlt hm]
      exact ⟨i + 1, by omega, ⟨hlt, by rw [hg]; rfl⟩, by simp only [↓RP, RQ, if_true, if_false, cond_true, cond_false, vcBin, bne, ne_eq, vcRet, resAll, resA, retOf, Int.reduceEq, Int.reduceNe, Int.reduceLT, Int.reduceLE, Int.reduceGT, Int.reduceGE, Int.reduceBEq, Int.reduceBNe, Nat.reduceLT, Nat.reduceLeDiff, Nat.reduceAdd, Nat.reduceSub, Nat.reduceMul, Nat.reduceEqDiff, Nat.reduceBEq, Nat.reduceBNe, reduceCtorEq, Int.reduceNeg]⟩
  · have hge : i = xs.length := by simp at h'; omega
    subst hge
    rw [List.drop_length] at hg
    simp only [↓RP, RQ, if_true, if_false, cond_true, cond_false, vcBin, bne, ne_eq, vcRet, resAll, resA, retOf, Int.reduceEq, Int.reduceNe, Int.reduceLT, Int.reduceLE, Int.reduceGT, Int.reduceGE, Int.reduceBEq, Int.reduceBNe, Nat.reduceLT, Nat.reduceLeDiff, Nat.reduceAdd, Nat.reduceSub, Nat.reduceMul, Nat.reduceEqDiff, Nat.reduceBEq, Nat.reduceBNe, reduceCtorEq, Int.reduceNeg, hg, idx]
theorem q150 (N : Nat) (t : Int) (ws : List Int) (hn : ws.length ≤ 1048576) (hW : sumW ws ≠ 0) : Runs Try.prog 150 [.v (.int .i64 t), .ro 1 (ws.map int1)] (emp N) (Got1 1 ((shr t ws).map int1)) := by
  have hm : ws.length ≤ maxLen := by have : maxLen = 9223372036854775807 := rfl; omega
  have hW0 : (sumW ws = 0) = False := by simp [hW]
  have hne : ws ≠ [] := fun e => hW (by rw [e]; rfl)
  refine C150_fn ?_
  unfold C150
  simp only [↓RP, RQ, if_true, if_false, cond_true, cond_false, vcBin, bne, ne_eq, vcRet, resAll, resA, retOf, Int.reduceEq, Int.reduceNe, Int.reduceLT, Int.reduceLE, Int.reduceGT, Int.reduceGE, Int.reduceBEq, Int.reduceBNe, Nat.reduceLT, Nat.reduceLeDiff, Nat.reduceAdd, Nat.reduceSub, Nat.reduceMul, Nat.reduceEqDiff, Nat.reduceBEq, Nat.reduceBNe, reduceCtorEq, Int.reduceNeg]
  first | refine vcCall.same (s118 N ws hn) ?_ | refine vcQCall.same (s118 N ws hn) ?_
  obtain ⟨W, hWe⟩ : ∃ W, sumW ws = W := ⟨_, rfl⟩
  have hL : shL t ws = IntKind.i64.wrap (t - sumW (ws.map (shP t W))) := by rw [shL, hWe]
  have hS : shr t ws = shGo (shL t ws).toNat (ws.map (shP t W)) (ws.map (shR t W)) := by rw [shr, hWe]
  rw [hWe] at hW0 ⊢
  simp only [↓RP, RQ, if_true, if_false, cond_true, cond_false, vcBin, bne, ne_eq, vcRet, resAll, resA, retOf, Int.reduceEq, Int.reduceNe, Int.reduceLT, Int.reduceLE, Int.reduceGT, Int.reduceGE, Int.reduceBEq, Int.reduceBNe, Nat.reduceLT, Nat.reduceLeDiff, Nat.reduceAdd, Nat.reduceSub, Nat.reduceMul, Nat.reduceEqDiff, Nat.reduceBEq, Nat.reduceBNe, reduceCtorEq, Int.reduceNeg, len_map]
  refine vcLoop.st (σ := Nat × Nat × Nat × Nat) (0, N + 2, N, N + 1) (fun s => s.1 ≤ ws.length ∧ s.2.2.1 < s.2.1 ∧ s.2.2.2 < s.2.1 ∧ s.2.2.1 ≠ s.2.2.2) (fun s => ws.length - s.1) (fun s => hl s.2.1 [(s.2.2.1, some ⟨1, grow (fun w => int1 (shP t W w)) ws s.1⟩), (s.2.2.2, some ⟨1, grow (fun w => int1 (shR t W w)) ws s.1⟩)])
    (fun s => [.v (.int .i64 t), .any, .any, .any, .any, .v (.int .i64 W), .own s.2.2.1 s.1, .own s.2.2.2 s.1, .any, .any, .any, .any, .any, .any, .any, .any, .ro 1 (ws.map int1), .v (.int .i64 ws.length), .v (.int .i64 s.1), .any, .any, .any, .any, .any, .any, .any, .any, .any, .any, .any, .any, .any, .any, .any, .any, .any, .any, .any, .any, .any, .any, .any, .any, .any, .any, .any, .any, .any, .any, .any, .any, .any, .any, .any, .any, .any, .any, .any, .any, .any, .any]) ⟨Nat.zero_le _, by show N < N + 2; omega, by show N + 1 < N + 2; omega, by show N ≠ N + 1; omega⟩ (dr_two _ _ _ _ _ _ (by simp only [↓RP, RQ, if_true, if_false, cond_true, cond_false, vcBin, bne, ne_eq, vcRet, resAll, resA, retOf, Int.reduceEq, Int.reduceNe, Int.reduceLT, Int.reduceLE, Int.reduceGT, Int.reduceGE, Int.reduceBEq, Int.reduceBNe, Nat.reduceLT, Nat.reduceLeDiff, Nat.reduceAdd, Nat.reduceSub, Nat.reduceMul, Nat.reduceEqDiff, Nat.reduceBEq, Nat.reduceBNe, reduceCtorEq, Int.reduceNeg, grow_zero]) (by simp only [↓RP, RQ, if_true, if_false, cond_true, cond_false, vcBin, bne, ne_eq, vcRet, resAll, resA, retOf, Int.reduceEq, Int.reduceNe, Int.reduceLT, Int.reduceLE, Int.reduceGT, Int.reduceGE, Int.reduceBEq, Int.reduceBNe, Nat.reduceLT, Nat.reduceLeDiff, Nat.reduceAdd, Nat.reduceSub, Nat.reduceMul, Nat.reduceEqDiff, Nat.reduceBEq, Nat.reduceBNe, reduceCtorEq, Int.reduceNeg, grow_zero]) (by simp only [↓RP, RQ, if_true, if_false, cond_true, cond_false, vcBin, bne, ne_eq, vcRet, resAll, resA, retOf, Int.reduceEq, Int.reduceNe, Int.reduceLT, Int.reduceLE, Int.reduceGT, Int.reduceGE, Int.reduceBEq, Int.reduceBNe, Nat.reduceLT, Nat.reduceLeDiff, Nat.reduceAdd, Nat.reduceSub, Nat.reduceMul, Nat.reduceEqDiff, Nat.reduceBEq, Nat.reduceBNe, reduceCtorEq, Int.reduceNeg])) (by simp only [↓RP, RQ, if_true, if_false, cond_true, cond_false, vcBin, bne, ne_eq, vcRet, resAll, resA, retOf, Int.reduceEq, Int.reduceNe, Int.reduceLT, Int.reduceLE, Int.reduceGT, Int.reduceGE, Int.reduceBEq, Int.reduceBNe, Nat.reduceLT, Nat.reduceLeDiff, Nat.reduceAdd, Nat.reduceSub, Nat.reduceMul, Nat.reduceEqDiff, Nat.reduceBEq, Nat.reduceBNe, reduceCtorEq, Int.reduceNeg]) ?_
  rintro ⟨i, M, b, c⟩ ⟨hi, hb, hc, hbc⟩
  replace hi : i ≤ ws.length := hi
  replace hb : b < M := hb
  replace hc : c < M := hc
  replace hbc : b ≠ c := hbc
  have hbc1 : (b = c) = False := by simp [hbc]
  have hbc2 : (c = b) = False := by simp [Ne.symm hbc]
  have hb1 : b < M + 1 := by omega
  have hb2 : b < M + 2 := by omega
  have hb3 : b < M + 3 := by omega
  have hc1 : c < M + 1 := by omega
  have hc2 : c < M + 2 := by omega
  have hc3 : c < M + 3 := by omega
  simp only [↓RP, RQ, if_true, if_false, cond_true, cond_false, vcBin, bne, ne_eq, vcRet, resAll, resA, retOf, Int.reduceEq, Int.reduceNe, Int.reduceLT, Int.reduceLE, Int.reduceGT, Int.reduceGE, Int.reduceBEq, Int.reduceBNe, Nat.reduceLT, Nat.reduceLeDiff, Nat.reduceAdd, Nat.reduceSub, Nat.reduceMul, Nat.reduceEqDiff, Nat.reduceBEq, Nat.reduceBNe, reduceCtorEq, Int.reduceNeg]
  refine vcIf.dec (fun h' => ?_) (fun h' => ?_)
  · have hlt : i < ws.length := by simpa using h'
    obtain ⟨w, hw0, hw1, hd⟩ := at_i int1 ws hlt
    have hp : (grow (fun w => int1 (shP t W w)) ws i).take i ++ [[AV.v (.int .i64 (IntKind.i64.wrap (Int.tdiv (IntKind.i64.wrap (t * w)) W)))]] = grow (fun w => int1 (shP t W w)) ws (i + 1) := grow_step (fun w => int1 (shP t W w)) hw0
    have hr : (grow (fun w => int1 (shR t W w)) ws i).take i ++ [[AV.v (.int .i64 (Int.tmod (IntKind.i64.wrap (t * w)) W))]] = grow (fun w => int1 (shR t W w)) ws (i + 1) := grow_step (fun w => int1 (shR t W w)) hw0
    have hi1 : int1 w = [AV.v (.int .i64 w)] := rfl
    have h8 : ((i + 1) * 8 ≤ 140737488355328) = True := by simp; omega
    simp only [↓RP, RQ, if_true, if_false, cond_true, cond_false, vcBin, bne, ne_eq, vcRet, resAll, resA, retOf, Int.reduceEq, Int.reduceNe, Int.reduceLT, Int.reduceLE, Int.reduceGT, Int.reduceGE, Int.reduceBEq, Int.reduceBNe, Nat.reduceLT, Nat.reduceLeDiff, Nat.reduceAdd, Nat.reduceSub, Nat.reduceMul, Nat.reduceEqDiff, Nat.reduceBEq, Nat.reduceBNe, reduceCtorEq, Int.reduceNeg, len_map, nn, tn, lt_cast hlt, hw1, hi1]
    apply vcLoud.of (fun _ => True)
    case h1 => intro G hG; simp only [↓RP, RQ, if_true, if_false, cond_true, cond_false, vcBin, bne, ne_eq, vcRet, resAll, resA, retOf, Int.reduceEq, Int.reduceNe, Int.reduceLT, Int.reduceLE, Int.reduceGT, Int.reduceGE, Int.reduceBEq, Int.reduceBNe, Nat.reduceLT, Nat.reduceLeDiff, Nat.reduceAdd, Nat.reduceSub, Nat.reduceMul, Nat.reduceEqDiff, Nat.reduceBEq, Nat.reduceBNe, reduceCtorEq, Int.reduceNeg, hW0, elems, h8, ne_lt hb, ne_gt hb, ne_lt hc, ne_gt hc, ne_lt hb1, ne_gt hb1, ne_lt hc1, ne_gt hc1, ne_lt hb2, ne_gt hb2, ne_lt hc2, ne_gt hc2, ne_lt hb3, ne_gt hb3, ne_lt hc3, ne_gt hc3, hbc1, hbc2, grow_len (fun w => int1 (shP t W w)) hi, grow_len (fun w => int1 (shR t W w)) hi, true_le, w_succ hlt hm]; rfl
    simp (config := { maxSteps := 5000000 }) only [↓RP, RQ, if_true, if_false, cond_true, cond_false, vcBin, bne, ne_eq, vcRet, resAll, resA, retOf, Int.reduceEq, Int.reduceNe, Int.reduceLT, Int.reduceLE, Int.reduceGT, Int.reduceGE, Int.reduceBEq, Int.reduceBNe, Nat.reduceLT, Nat.reduceLeDiff, Nat.reduceAdd, Nat.reduceSub, Nat.reduceMul, Nat.reduceEqDiff, Nat.reduceBEq, Nat.reduceBNe, reduceCtorEq, Int.reduceNeg, vcT_leaf, vcT_alt, vcT_step, hW0, elems, h8, ne_lt hb, ne_gt hb, ne_lt hc, ne_gt hc, ne_lt hb1, ne_gt hb1, ne_lt hc1, ne_gt hc1, ne_lt hb2, ne_gt hb2, ne_lt hc2, ne_gt hc2, ne_lt hb3, ne_gt hb3, ne_lt hc3, ne_gt hc3, hbc1, hbc2, grow_len (fun w => int1 (shP t W w)) hi, grow_len (fun w => int1 (shR t W w)) hi, true_le, w_succ hlt hm]
    and_intros
    · exact ⟨(i + 1, M + 4, M + 1, M + 3), by show ws.length - (i + 1) < ws.length - i; omega, ⟨hlt, by show M + 1 < M + 4; omega, by show M + 3 < M + 4; omega, by show M + 1 ≠ M + 3; omega⟩, dr_two _ _ _ _ _ _ (by simp only [↓RP, RQ, if_true, if_false, cond_true, cond_false, vcBin, bne, ne_eq, vcRet, resAll, resA, retOf, Int.reduceEq, Int.reduceNe, Int.reduceLT, Int.reduceLE, Int.reduceGT, Int.reduceGE, Int.reduceBEq, Int.reduceBNe, Nat.reduceLT, Nat.reduceLeDiff, Nat.reduceAdd, Nat.reduceSub, Nat.reduceMul, Nat.reduceEqDiff, Nat.reduceBEq, Nat.reduceBNe, reduceCtorEq, Int.reduceNeg, hp, ne_lt hb, ne_gt hb, ne_lt hc, ne_gt hc, ne_lt hb1, ne_gt hb1, ne_lt hc1, ne_gt hc1, ne_lt hb2, ne_gt hb2, ne_lt hc2, ne_gt hc2, ne_lt hb3, ne_gt hb3, ne_lt hc3, ne_gt hc3, hbc1, hbc2]) (by simp only [↓RP, RQ, if_true, if_false, cond_true, cond_false, vcBin, bne, ne_eq, vcRet, resAll, resA, retOf, Int.reduceEq, Int.reduceNe, Int.reduceLT, Int.reduceLE, Int.reduceGT, Int.reduceGE, Int.reduceBEq, Int.reduceBNe, Nat.reduceLT, Nat.reduceLeDiff, Nat.reduceAdd, Nat.reduceSub, Nat.reduceMul, Nat.reduceEqDiff, Nat.reduceBEq, Nat.reduceBNe, reduceCtorEq, Int.reduceNeg, hr, ne_lt hb, ne_gt hb, ne_lt hc, ne_gt hc, ne_lt hb1, ne_gt hb1, ne_lt hc1, ne_gt hc1, ne_lt hb2, ne_gt hb2, ne_lt hc2, ne_gt hc2, ne_lt hb3, ne_gt hb3, ne_lt hc3, ne_gt hc3, hbc1, hbc2]) (by simp only [↓RP, RQ, if_true, if_false, cond_true, cond_false, vcBin, bne, ne_eq, vcRet, resAll, resA, retOf, Int.reduceEq, Int.reduceNe, Int.reduceLT, Int.reduceLE, Int.reduceGT, Int.reduceGE, Int.reduceBEq, Int.reduceBNe, Nat.reduceLT, Nat.reduceLeDiff, Nat.reduceAdd, Nat.reduceSub, Nat.reduceMul, Nat.reduceEqDiff, Nat.reduceBEq, Nat.reduceBNe, reduceCtorEq, Int.reduceNeg]), by simp only [↓RP, RQ, if_true, if_false, cond_true, cond_false, vcBin, bne, ne_eq, vcRet, resAll, resA, retOf, Int.reduceEq, Int.reduceNe, Int.reduceLT, Int.reduceLE, Int.reduceGT, Int.reduceGE, Int.reduceBEq, Int.reduceBNe, Nat.reduceLT, Nat.reduceLeDiff, Nat.reduceAdd, Nat.reduceSub, Nat.reduceMul, Nat.reduceEqDiff, Nat.reduceBEq, Nat.reduceBNe, reduceCtorEq, Int.reduceNeg]⟩
    · exact ⟨(i + 1, M + 4, M + 2, M + 3), by show ws.length - (i + 1) < ws.length - i; omega, ⟨hlt, by show M + 2 < M + 4; omega, by show M + 3 < M + 4; omega, by show M + 2 ≠ M + 3; omega⟩, dr_two _ _ _ _ _ _ (by simp only [↓RP, RQ, if_true, if_false, cond_true, cond_false, vcBin, bne, ne_eq, vcRet, resAll, resA, retOf, Int.reduceEq, Int.reduceNe, Int.reduceLT, Int.reduceLE, Int.reduceGT, Int.reduceGE, Int.reduceBEq, Int.reduceBNe, Nat.reduceLT, Nat.reduceLeDiff, Nat.reduceAdd, Nat.reduceSub, Nat.reduceMul, Nat.reduceEqDiff, Nat.reduceBEq, Nat.reduceBNe, reduceCtorEq, Int.reduceNeg, hp, ne_lt hb, ne_gt hb, ne_lt hc, ne_gt hc, ne_lt hb1, ne_gt hb1, ne_lt hc1, ne_gt hc1, ne_lt hb2, ne_gt hb2, ne_lt hc2, ne_gt hc2, ne_lt hb3, ne_gt hb3, ne_lt hc3, ne_gt hc3, hbc1, hbc2]) (by simp only [↓RP, RQ, if_true, if_false, cond_true, cond_false, vcBin, bne, ne_eq, vcRet, resAll, resA, retOf, Int.reduceEq, Int.reduceNe, Int.reduceLT, Int.reduceLE, Int.reduceGT, Int.reduceGE, Int.reduceBEq, Int.reduceBNe, Nat.reduceLT, Nat.reduceLeDiff, Nat.reduceAdd, Nat.reduceSub, Nat.reduceMul, Nat.reduceEqDiff, Nat.reduceBEq, Nat.reduceBNe, reduceCtorEq, Int.reduceNeg, hr, ne_lt hb, ne_gt hb, ne_lt hc, ne_gt hc, ne_lt hb1, ne_gt hb1, ne_lt hc1, ne_gt hc1, ne_lt hb2, ne_gt hb2, ne_lt hc2, ne_gt hc2, ne_lt hb3, ne_gt hb3, ne_lt hc3, ne_gt hc3, hbc1, hbc2]) (by simp only [↓RP, RQ, if_true, if_false, cond_true, cond_false, vcBin, bne, ne_eq, vcRet, resAll, resA, retOf, Int.reduceEq, Int.reduceNe, Int.reduceLT, Int.reduceLE, Int.reduceGT, Int.reduceGE, Int.reduceBEq, Int.reduceBNe, Nat.reduceLT, Nat.reduceLeDiff, Nat.reduceAdd, Nat.reduceSub, Nat.reduceMul, Nat.reduceEqDiff, Nat.reduceBEq, Nat.reduceBNe, reduceCtorEq, Int.reduceNeg]), by simp only [↓RP, RQ, if_true, if_false, cond_true, cond_false, vcBin, bne, ne_eq, vcRet, resAll, resA, retOf, Int.reduceEq, Int.reduceNe, Int.reduceLT, Int.reduceLE, Int.reduceGT, Int.reduceGE, Int.reduceBEq, Int.reduceBNe, Nat.reduceLT, Nat.reduceLeDiff, Nat.reduceAdd, Nat.reduceSub, Nat.reduceMul, Nat.reduceEqDiff, Nat.reduceBEq, Nat.reduceBNe, reduceCtorEq, Int.reduceNeg]⟩
    · exact ⟨(i + 1, M + 4, M + 2, M + 3), by show ws.length - (i + 1) < ws.length - i; omega, ⟨hlt, by show M + 2 < M + 4; omega, by show M + 3 < M + 4; omega, by show M + 2 ≠ M + 3; omega⟩, dr_two _ _ _ _ _ _ (by simp only [↓RP, RQ, if_true, if_false, cond_true, cond_false, vcBin, bne, ne_eq, vcRet, resAll, resA, retOf, Int.reduceEq, Int.reduceNe, Int.reduceLT, Int.reduceLE, Int.reduceGT, Int.reduceGE, Int.reduceBEq, Int.reduceBNe, Nat.reduceLT, Nat.reduceLeDiff, Nat.reduceAdd, Nat.reduceSub, Nat.reduceMul, Nat.reduceEqDiff, Nat.reduceBEq, Nat.reduceBNe, reduceCtorEq, Int.reduceNeg, hp, ne_lt hb, ne_gt hb, ne_lt hc, ne_gt hc, ne_lt hb1, ne_gt hb1, ne_lt hc1, ne_gt hc1, ne_lt hb2, ne_gt hb2, ne_lt hc2, ne_gt hc2, ne_lt hb3, ne_gt hb3, ne_lt hc3, ne_gt hc3, hbc1, hbc2]) (by simp only [↓RP, RQ, if_true, if_false, cond_true, cond_false, vcBin, bne, ne_eq, vcRet, resAll, resA, retOf, Int.reduceEq, Int.reduceNe, Int.reduceLT, Int.reduceLE, Int.reduceGT, Int.reduceGE, Int.reduceBEq, Int.reduceBNe, Nat.reduceLT, Nat.reduceLeDiff, Nat.reduceAdd, Nat.reduceSub, Nat.reduceMul, Nat.reduceEqDiff, Nat.reduceBEq, Nat.reduceBNe, reduceCtorEq, Int.reduceNeg, hr, ne_lt hb, ne_gt hb, ne_lt hc, ne_gt hc, ne_lt hb1, ne_gt hb1, ne_lt hc1, ne_gt hc1, ne_lt hb2, ne_gt hb2, ne_lt hc2, ne_gt hc2, ne_lt hb3, ne_gt hb3, ne_lt hc3, ne_gt hc3, hbc1, hbc2]) (by simp only [↓RP, RQ, if_true, if_false, cond_true, cond_false, vcBin, bne, ne_eq, vcRet, resAll, resA, retOf, Int.reduceEq, Int.reduceNe, Int.reduceLT, Int.reduceLE, Int.reduceGT, Int.reduceGE, Int.reduceBEq, Int.reduceBNe, Nat.reduceLT, Nat.reduceLeDiff, Nat.reduceAdd, Nat.reduceSub, Nat.reduceMul, Nat.reduceEqDiff, Nat.reduceBEq, Nat.reduceBNe, reduceCtorEq, Int.reduceNeg]), by simp only [↓RP, RQ, if_true, if_false, cond_true, cond_false, vcBin, bne, ne_eq, vcRet, resAll, resA, retOf, Int.reduceEq, Int.reduceNe, Int.reduceLT, Int.reduceLE, Int.reduceGT, Int.reduceGE, Int.reduceBEq, Int.reduceBNe, Nat.reduceLT, Nat.reduceLeDiff, Nat.reduceAdd, Nat.reduceSub, Nat.reduceMul, Nat.reduceEqDiff, Nat.reduceBEq, Nat.reduceBNe, reduceCtorEq, Int.reduceNeg]⟩
  · have hge : i = ws.length := by simp at h'; omega
    subst hge
    have hgp := grow_map (shP t W) ws
    have hgr := grow_map (shR t W) ws
    simp only [↓RP, RQ, if_true, if_false, cond_true, cond_false, vcBin, bne, ne_eq, vcRet, resAll, resA, retOf, Int.reduceEq, Int.reduceNe, Int.reduceLT, Int.reduceLE, Int.reduceGT, Int.reduceGE, Int.reduceBEq, Int.reduceBNe, Nat.reduceLT, Nat.reduceLeDiff, Nat.reduceAdd, Nat.reduceSub, Nat.reduceMul, Nat.reduceEqDiff, Nat.reduceBEq, Nat.reduceBNe, reduceCtorEq, Int.reduceNeg, hgp, hgr]
    first | refine vcCall.same (Runs.pure (s118 _ (ws.map (shP t W)) (by simp; omega)) (.cons (Fz.all (by simp only [↓RP, RQ, if_true, if_false, cond_true, cond_false, vcBin, bne, ne_eq, vcRet, resAll, resA, retOf, Int.reduceEq, Int.reduceNe, Int.reduceLT, Int.reduceLE, Int.reduceGT, Int.reduceGE, Int.reduceBEq, Int.reduceBNe, Nat.reduceLT, Nat.reduceLeDiff, Nat.reduceAdd, Nat.reduceSub, Nat.reduceMul, Nat.reduceEqDiff, Nat.reduceBEq, Nat.reduceBNe, reduceCtorEq, Int.reduceNeg, ne_lt hb, ne_gt hb, hbc1, hbc2]) (by simp)) .nil) (.v _)) ?_ | refine vcQCall.same (Runs.pure (s118 _ (ws.map (shP t W)) (by simp; omega)) (.cons (Fz.all (by simp only [↓RP, RQ, if_true, if_false, cond_true, cond_false, vcBin, bne, ne_eq, vcRet, resAll, resA, retOf, Int.reduceEq, Int.reduceNe, Int.reduceLT, Int.reduceLE, Int.reduceGT, Int.reduceGE, Int.reduceBEq, Int.reduceBNe, Nat.reduceLT, Nat.reduceLeDiff, Nat.reduceAdd, Nat.reduceSub, Nat.reduceMul, Nat.reduceEqDiff, Nat.reduceBEq, Nat.reduceBNe, reduceCtorEq, Int.reduceNeg, ne_lt hb, ne_gt hb, hbc1, hbc2]) (by simp)) .nil) (.v _)) ?_
    simp only [↓RP, RQ, if_true, if_false, cond_true, cond_false, vcBin, bne, ne_eq, vcRet, resAll, resA, retOf, Int.reduceEq, Int.reduceNe, Int.reduceLT, Int.reduceLE, Int.reduceGT, Int.reduceGE, Int.reduceBEq, Int.reduceBNe, Nat.reduceLT, Nat.reduceLeDiff, Nat.reduceAdd, Nat.reduceSub, Nat.reduceMul, Nat.reduceEqDiff, Nat.reduceBEq, Nat.reduceBNe, reduceCtorEq, Int.reduceNeg, ← hL]
    have hlb := shL_b t ws
    refine vcLoop.st (σ := Int × List Int × List Int) (shL t ws, ws.map (shP t W), ws.map (shR t W)) (fun s => s.1 < 9223372036854775808 ∧ s.2.1.length = ws.length ∧ s.2.2.length = ws.length ∧ shr t ws = shGo s.1.toNat s.2.1 s.2.2) (fun s => s.1.toNat) (fun s => hl M [(b, some ⟨1, s.2.1.map int1⟩), (c, some ⟨1, s.2.2.map int1⟩)])
      (fun s => [.any, .any, .any, .any, .any, .any, .own b ws.length, .own c ws.length, .any, .any, .v (.int .i64 s.1), .any, .any, .any, .any, .any, .any, .any, .any, .any, .any, .any, .any, .any, .any, .any, .any, .any, .any, .any, .any, .any, .any, .any, .any, .any, .any, .any, .any, .any, .any, .any, .any, .any, .any, .any, .any, .any, .any, .any, .any, .any, .any, .any, .any, .any, .any, .any, .any, .any, .any]) ⟨hlb, by simp, by simp, hS⟩ (dr_two _ _ _ _ _ _ (by simp only [↓RP, RQ, if_true, if_false, cond_true, cond_false, vcBin, bne, ne_eq, vcRet, resAll, resA, retOf, Int.reduceEq, Int.reduceNe, Int.reduceLT, Int.reduceLE, Int.reduceGT, Int.reduceGE, Int.reduceBEq, Int.reduceBNe, Nat.reduceLT, Nat.reduceLeDiff, Nat.reduceAdd, Nat.reduceSub, Nat.reduceMul, Nat.reduceEqDiff, Nat.reduceBEq, Nat.reduceBNe, reduceCtorEq, Int.reduceNeg]) (by simp only [↓RP, RQ, if_true, if_false, cond_true, cond_false, vcBin, bne, ne_eq, vcRet, resAll, resA, retOf, Int.reduceEq, Int.reduceNe, Int.reduceLT, Int.reduceLE, Int.reduceGT, Int.reduceGE, Int.reduceBEq, Int.reduceBNe, Nat.reduceLT, Nat.reduceLeDiff, Nat.reduceAdd, Nat.reduceSub, Nat.reduceMul, Nat.reduceEqDiff, Nat.reduceBEq, Nat.reduceBNe, reduceCtorEq, Int.reduceNeg, hbc1, hbc2]) (by simp only [↓RP, RQ, if_true, if_false, cond_true, cond_false, vcBin, bne, ne_eq, vcRet, resAll, resA, retOf, Int.reduceEq, Int.reduceNe, Int.reduceLT, Int.reduceLE, Int.reduceGT, Int.reduceGE, Int.reduceBEq, Int.reduceBNe, Nat.reduceLT, Nat.reduceLeDiff, Nat.reduceAdd, Nat.reduceSub, Nat.reduceMul, Nat.reduceEqDiff, Nat.reduceBEq, Nat.reduceBNe, reduceCtorEq, Int.reduceNeg])) (by simp only [↓RP, RQ, if_true, if_false, cond_true, cond_false, vcBin, bne, ne_eq, vcRet, resAll, resA, retOf, Int.reduceEq, Int.reduceNe, Int.reduceLT, Int.reduceLE, Int.reduceGT, Int.reduceGE, Int.reduceBEq, Int.reduceBNe, Nat.reduceLT, Nat.reduceLeDiff, Nat.reduceAdd, Nat.reduceSub, Nat.reduceMul, Nat.reduceEqDiff, Nat.reduceBEq, Nat.reduceBNe, reduceCtorEq, Int.reduceNeg]) ?_
    rintro ⟨l, ps, rs⟩ ⟨hl0, hps, hrs, hg⟩
    replace hl0 : l < 9223372036854775808 := hl0
    replace hps : ps.length = ws.length := hps
    replace hrs : rs.length = ws.length := hrs
    replace hg : shr t ws = shGo l.toNat ps rs := hg
    simp only [↓RP, RQ, if_true, if_false, cond_true, cond_false, vcBin, bne, ne_eq, vcRet, resAll, resA, retOf, Int.reduceEq, Int.reduceNe, Int.reduceLT, Int.reduceLE, Int.reduceGT, Int.reduceGE, Int.reduceBEq, Int.reduceBNe, Nat.reduceLT, Nat.reduceLeDiff, Nat.reduceAdd, Nat.reduceSub, Nat.reduceMul, Nat.reduceEqDiff, Nat.reduceBEq, Nat.reduceBNe, reduceCtorEq, Int.reduceNeg]
    first | refine vcIf.dec (fun h5 => ?_) (fun h5 => ?_) | refine vcQIf.dec (fun h5 => ?_) (fun h5 => ?_)
    · have hrne : rs ≠ [] := fun e => hne (List.eq_nil_of_length_eq_zero (by rw [← hrs, e]; rfl))
      obtain ⟨hal, hax⟩ := am_lt hrne
      have hap : am rs < ps.length := by omega
      have haw : am rs < ws.length := by omega
      have hst : ∀ (qs : List Int) (n : Int), (qs.map int1).set (am rs) [.v (.int .i64 n)] = (qs.set (am rs) n).map int1 := fun qs n => by rw [List.map_set]; rfl
      have hga : (ps.map int1).getD (am rs) [] = [.v (.int .i64 (ps.getD (am rs) 0))] := by simp [List.getD_eq_getElem?_getD, hap, int1]
      have hgb : (rs.map int1).getD (am rs) [] = [.v (.int .i64 (rs.getD (am rs) 0))] := by simp [List.getD_eq_getElem?_getD, hal, int1]
      have hwl : IntKind.i64.wrap (l - 1) = l - 1 := w64 (by omega) (by omega)
      rw [show l.toNat = (l - 1).toNat + 1 by omega, shGo] at hg
      simp only [↓RP, RQ, if_true, if_false, cond_true, cond_false, vcBin, bne, ne_eq, vcRet, resAll, resA, retOf, Int.reduceEq, Int.reduceNe, Int.reduceLT, Int.reduceLE, Int.reduceGT, Int.reduceGE, Int.reduceBEq, Int.reduceBNe, Nat.reduceLT, Nat.reduceLeDiff, Nat.reduceAdd, Nat.reduceSub, Nat.reduceMul, Nat.reduceEqDiff, Nat.reduceBEq, Nat.reduceBNe, reduceCtorEq, Int.reduceNeg, h5]
      first | refine vcCall.same (Runs.pure (s165 _ rs (by omega) hrne) (.cons (Fz.all (by simp only [↓RP, RQ, if_true, if_false, cond_true, cond_false, vcBin, bne, ne_eq, vcRet, resAll, resA, retOf, Int.reduceEq, Int.reduceNe, Int.reduceLT, Int.reduceLE, Int.reduceGT, Int.reduceGE, Int.reduceBEq, Int.reduceBNe, Nat.reduceLT, Nat.reduceLeDiff, Nat.reduceAdd, Nat.reduceSub, Nat.reduceMul, Nat.reduceEqDiff, Nat.reduceBEq, Nat.reduceBNe, reduceCtorEq, Int.reduceNeg, hbc1, hbc2]) (by simp [hrs])) .nil) (.v _)) ?_ | refine vcQCall.same (Runs.pure (s165 _ rs (by omega) hrne) (.cons (Fz.all (by simp only [↓RP, RQ, if_true, if_false, cond_true, cond_false, vcBin, bne, ne_eq, vcRet, resAll, resA, retOf, Int.reduceEq, Int.reduceNe, Int.reduceLT, Int.reduceLE, Int.reduceGT, Int.reduceGE, Int.reduceBEq, Int.reduceBNe, Nat.reduceLT, Nat.reduceLeDiff, Nat.reduceAdd, Nat.reduceSub, Nat.reduceMul, Nat.reduceEqDiff, Nat.reduceBEq, Nat.reduceBNe, reduceCtorEq, Int.reduceNeg, hbc1, hbc2]) (by simp [hrs])) .nil) (.v _)) ?_
      simp only [↓RP, RQ, if_true, if_false, cond_true, cond_false, vcBin, bne, ne_eq, vcRet, resAll, resA, retOf, Int.reduceEq, Int.reduceNe, Int.reduceLT, Int.reduceLE, Int.reduceGT, Int.reduceGE, Int.reduceBEq, Int.reduceBNe, Nat.reduceLT, Nat.reduceLeDiff, Nat.reduceAdd, Nat.reduceSub, Nat.reduceMul, Nat.reduceEqDiff, Nat.reduceBEq, Nat.reduceBNe, reduceCtorEq, Int.reduceNeg]
      first | refine vcCall.same (Runs.pure (s164 _ rs (by omega) (mxL rs)) (.cons (Fz.all (by simp only [↓RP, RQ, if_true, if_false, cond_true, cond_false, vcBin, bne, ne_eq, vcRet, resAll, resA, retOf, Int.reduceEq, Int.reduceNe, Int.reduceLT, Int.reduceLE, Int.reduceGT, Int.reduceGE, Int.reduceBEq, Int.reduceBNe, Nat.reduceLT, Nat.reduceLeDiff, Nat.reduceAdd, Nat.reduceSub, Nat.reduceMul, Nat.reduceEqDiff, Nat.reduceBEq, Nat.reduceBNe, reduceCtorEq, Int.reduceNeg, hbc1, hbc2]) (by simp [hrs])) (.cons (.same _ (.inl rfl)) .nil)) (.v _)) ?_ | refine vcQCall.same (Runs.pure (s164 _ rs (by omega) (mxL rs)) (.cons (Fz.all (by simp only [↓RP, RQ, if_true, if_false, cond_true, cond_false, vcBin, bne, ne_eq, vcRet, resAll, resA, retOf, Int.reduceEq, Int.reduceNe, Int.reduceLT, Int.reduceLE, Int.reduceGT, Int.reduceGE, Int.reduceBEq, Int.reduceBNe, Nat.reduceLT, Nat.reduceLeDiff, Nat.reduceAdd, Nat.reduceSub, Nat.reduceMul, Nat.reduceEqDiff, Nat.reduceBEq, Nat.reduceBNe, reduceCtorEq, Int.reduceNeg, hbc1, hbc2]) (by simp [hrs])) (.cons (.same _ (.inl rfl)) .nil)) (.v _)) ?_
      simp only [↓RP, RQ, if_true, if_false, cond_true, cond_false, vcBin, bne, ne_eq, vcRet, resAll, resA, retOf, Int.reduceEq, Int.reduceNe, Int.reduceLT, Int.reduceLE, Int.reduceGT, Int.reduceGE, Int.reduceBEq, Int.reduceBNe, Nat.reduceLT, Nat.reduceLeDiff, Nat.reduceAdd, Nat.reduceSub, Nat.reduceMul, Nat.reduceEqDiff, Nat.reduceBEq, Nat.reduceBNe, reduceCtorEq, Int.reduceNeg, hax, nn, tn, lt_cast haw, len_map, hap, hal, hbc1, hbc2, hga, hgb, hst, hwl]
      exact ⟨(l - 1, ps.set (am rs) (IntKind.i64.wrap (ps.getD (am rs) 0 + 1)), rs.set (am rs) (-1)), by show (l - 1).toNat < l.toNat; omega, ⟨by show l - 1 < _; omega, by show (ps.set _ _).length = _; rw [List.length_set]; exact hps, by show (rs.set _ _).length = _; rw [List.length_set]; exact hrs, hg⟩, dr_two _ _ _ _ _ _ (by simp only [↓RP, RQ, if_true, if_false, cond_true, cond_false, vcBin, bne, ne_eq, vcRet, resAll, resA, retOf, Int.reduceEq, Int.reduceNe, Int.reduceLT, Int.reduceLE, Int.reduceGT, Int.reduceGE, Int.reduceBEq, Int.reduceBNe, Nat.reduceLT, Nat.reduceLeDiff, Nat.reduceAdd, Nat.reduceSub, Nat.reduceMul, Nat.reduceEqDiff, Nat.reduceBEq, Nat.reduceBNe, reduceCtorEq, Int.reduceNeg, hbc1, hbc2]) (by simp only [↓RP, RQ, if_true, if_false, cond_true, cond_false, vcBin, bne, ne_eq, vcRet, resAll, resA, retOf, Int.reduceEq, Int.reduceNe, Int.reduceLT, Int.reduceLE, Int.reduceGT, Int.reduceGE, Int.reduceBEq, Int.reduceBNe, Nat.reduceLT, Nat.reduceLeDiff, Nat.reduceAdd, Nat.reduceSub, Nat.reduceMul, Nat.reduceEqDiff, Nat.reduceBEq, Nat.reduceBNe, reduceCtorEq, Int.reduceNeg, hbc1, hbc2]) (by simp only [↓RP, RQ, if_true, if_false, cond_true, cond_false, vcBin, bne, ne_eq, vcRet, resAll, resA, retOf, Int.reduceEq, Int.reduceNe, Int.reduceLT, Int.reduceLE, Int.reduceGT, Int.reduceGE, Int.reduceBEq, Int.reduceBNe, Nat.reduceLT, Nat.reduceLeDiff, Nat.reduceAdd, Nat.reduceSub, Nat.reduceMul, Nat.reduceEqDiff, Nat.reduceBEq, Nat.reduceBNe, reduceCtorEq, Int.reduceNeg]), by simp only [↓RP, RQ, if_true, if_false, cond_true, cond_false, vcBin, bne, ne_eq, vcRet, resAll, resA, retOf, Int.reduceEq, Int.reduceNe, Int.reduceLT, Int.reduceLE, Int.reduceGT, Int.reduceGE, Int.reduceBEq, Int.reduceBNe, Nat.reduceLT, Nat.reduceLeDiff, Nat.reduceAdd, Nat.reduceSub, Nat.reduceMul, Nat.reduceEqDiff, Nat.reduceBEq, Nat.reduceBNe, reduceCtorEq, Int.reduceNeg]⟩
    · have hz : l.toNat = 0 := by omega
      rw [hz, shGo] at hg
      simp only [↓RP, RQ, if_true, if_false, cond_true, cond_false, vcBin, bne, ne_eq, vcRet, resAll, resA, retOf, Int.reduceEq, Int.reduceNe, Int.reduceLT, Int.reduceLE, Int.reduceGT, Int.reduceGE, Int.reduceBEq, Int.reduceBNe, Nat.reduceLT, Nat.reduceLeDiff, Nat.reduceAdd, Nat.reduceSub, Nat.reduceMul, Nat.reduceEqDiff, Nat.reduceBEq, Nat.reduceBNe, reduceCtorEq, Int.reduceNeg, h5]
      exact ⟨b, by rw [len_map, hg, hps], by rw [hg]; exact look_same _ _ _⟩
theorem q149 (N : Nat) (t : Int) (ht : -9223372036854775808 ≤ t ∧ t < 9223372036854775808) (ws : List Int) (hn : ws.length ≤ 1048576) (hW : sumW ws ≠ 0) : Runs Try.prog 149 [.v (.int .i64 t), .ro 1 (ws.map int1)] (emp N) (Got1 1 ((shr t ws).map int1)) := by
  have hm : ws.length ≤ maxLen := by have : maxLen = 9223372036854775807 := rfl; omega
  have hW0 : (sumW ws = 0) = False := by simp [hW]
  have hne : ws ≠ [] := fun e => hW (by rw [e]; rfl)
  refine C149_fn ?_
  unfold C149
  simp only [↓RP, RQ, if_true, if_false, cond_true, cond_false, vcBin, bne, ne_eq, vcRet, resAll, resA, retOf, Int.reduceEq, Int.reduceNe, Int.reduceLT, Int.reduceLE, Int.reduceGT, Int.reduceGE, Int.reduceBEq, Int.reduceBNe, Nat.reduceLT, Nat.reduceLeDiff, Nat.reduceAdd, Nat.reduceSub, Nat.reduceMul, Nat.reduceEqDiff, Nat.reduceBEq, Nat.reduceBNe, reduceCtorEq, Int.reduceNeg]
  first | refine vcCall.same (s103 N ws hn) ?_ | refine vcQCall.same (s103 N ws hn) ?_
  obtain ⟨W, hWe⟩ : ∃ W, sumW ws = W := ⟨_, rfl⟩
  have hL : (ws.map (shP t W)).foldl (fun l p => IntKind.i64.wrap (l - p)) t = shL t ws := by
    have := subs_sum (ws.map (shP t W)) t 0
    rw [Int.sub_zero, w64 ht.1 ht.2] at this
    rw [shL, hWe, this]; rfl
  have hS : shr t ws = shGo (shL t ws).toNat (ws.map (shP t W)) (ws.map (shR t W)) := by rw [shr, hWe]
  rw [hWe] at hW0 ⊢
  simp only [↓RP, RQ, if_true, if_false, cond_true, cond_false, vcBin, bne, ne_eq, vcRet, resAll, resA, retOf, Int.reduceEq, Int.reduceNe, Int.reduceLT, Int.reduceLE, Int.reduceGT, Int.reduceGE, Int.reduceBEq, Int.reduceBNe, Nat.reduceLT, Nat.reduceLeDiff, Nat.reduceAdd, Nat.reduceSub, Nat.reduceMul, Nat.reduceEqDiff, Nat.reduceBEq, Nat.reduceBNe, reduceCtorEq, Int.reduceNeg]
  refine vcLoop.st (σ := (Nat × Int) × Nat × Nat × Nat) ((0, t), N + 2, N, N + 1) (fun s => s.1.1 ≤ ws.length ∧ s.2.2.1 < s.2.1 ∧ s.2.2.2 < s.2.1 ∧ s.2.2.1 ≠ s.2.2.2 ∧ shL t ws = ((ws.drop s.1.1).map (shP t W)).foldl (fun l p => IntKind.i64.wrap (l - p)) s.1.2) (fun s => ws.length - s.1.1) (fun s => hl s.2.1 [(s.2.2.1, some ⟨1, grow (fun w => int1 (shP t W w)) ws s.1.1⟩), (s.2.2.2, some ⟨1, grow (fun w => int1 (shR t W w)) ws s.1.1⟩)])
    (fun s => [.v (.int .i64 t), .ro 1 (ws.map int1), .any, .any, .any, .v (.int .i64 W), .own s.2.2.1 s.1.1, .own s.2.2.2 s.1.1, .v (.int .i64 s.1.2), .v (.int .i64 s.1.1), .any, .any, .any, .any, .any, .any, .any, .any, .any, .any, .any, .any, .any, .any, .any, .any, .any, .any, .any, .any, .any, .any, .any, .any, .any, .any, .any, .any, .any, .any, .any, .any, .any, .any, .any, .any, .any, .any, .any, .any, .any, .any, .any, .any, .any, .any, .any, .any, .any, .any, .any, .any, .any, .any, .any, .any, .any, .any, .any, .any, .any, .any, .any, .any, .any, .any, .any, .any, .any, .any, .any]) ⟨Nat.zero_le _, by show N < N + 2; omega, by show N + 1 < N + 2; omega, by show N ≠ N + 1; omega, hL.symm⟩ (dr_two _ _ _ _ _ _ (by simp only [↓RP, RQ, if_true, if_false, cond_true, cond_false, vcBin, bne, ne_eq, vcRet, resAll, resA, retOf, Int.reduceEq, Int.reduceNe, Int.reduceLT, Int.reduceLE, Int.reduceGT, Int.reduceGE, Int.reduceBEq, Int.reduceBNe, Nat.reduceLT, Nat.reduceLeDiff, Nat.reduceAdd, Nat.reduceSub, Nat.reduceMul, Nat.reduceEqDiff, Nat.reduceBEq, Nat.reduceBNe, reduceCtorEq, Int.reduceNeg, grow_zero]) (by simp only [↓RP, RQ, if_true, if_false, cond_true, cond_false, vcBin, bne, ne_eq, vcRet, resAll, resA, retOf, Int.reduceEq, Int.reduceNe, Int.reduceLT, Int.reduceLE, Int.reduceGT, Int.reduceGE, Int.reduceBEq, Int.reduceBNe, Nat.reduceLT, Nat.reduceLeDiff, Nat.reduceAdd, Nat.reduceSub, Nat.reduceMul, Nat.reduceEqDiff, Nat.reduceBEq, Nat.reduceBNe, reduceCtorEq, Int.reduceNeg, grow_zero]) (by simp only [↓RP, RQ, if_true, if_false, cond_true, cond_false, vcBin, bne, ne_eq, vcRet, resAll, resA, retOf, Int.reduceEq, Int.reduceNe, Int.reduceLT, Int.reduceLE, Int.reduceGT, Int.reduceGE, Int.reduceBEq, Int.reduceBNe, Nat.reduceLT, Nat.reduceLeDiff, Nat.reduceAdd, Nat.reduceSub, Nat.reduceMul, Nat.reduceEqDiff, Nat.reduceBEq, Nat.reduceBNe, reduceCtorEq, Int.reduceNeg])) (by simp only [↓RP, RQ, if_true, if_false, cond_true, cond_false, vcBin, bne, ne_eq, vcRet, resAll, resA, retOf, Int.reduceEq, Int.reduceNe, Int.reduceLT, Int.reduceLE, Int.reduceGT, Int.reduceGE, Int.reduceBEq, Int.reduceBNe, Nat.reduceLT, Nat.reduceLeDiff, Nat.reduceAdd, Nat.reduceSub, Nat.reduceMul, Nat.reduceEqDiff, Nat.reduceBEq, Nat.reduceBNe, reduceCtorEq, Int.reduceNeg]) ?_
  rintro ⟨⟨i, l⟩, M, b, c⟩ ⟨hi, hb, hc, hbc, hg⟩
  replace hi : i ≤ ws.length := hi
  replace hb : b < M := hb
  replace hc : c < M := hc
  replace hbc : b ≠ c := hbc
  replace hg : shL t ws = ((ws.drop i).map (shP t W)).foldl (fun l p => IntKind.i64.wrap (l - p)) l := hg
  have hbc1 : (b = c) = False := by simp [hbc]
  have hbc2 : (c = b) = False := by simp [Ne.symm hbc]
  have hb1 : b < M + 1 := by omega
  have hb2 : b < M + 2 := by omega
  have hb3 : b < M + 3 := by omega
  have hc1 : c < M + 1 := by omega
  have hc2 : c < M + 2 := by omega
  have hc3 : c < M + 3 := by omega
  simp only [↓RP, RQ, if_true, if_false, cond_true, cond_false, vcBin, bne, ne_eq, vcRet, resAll, resA, retOf, Int.reduceEq, Int.reduceNe, Int.reduceLT, Int.reduceLE, Int.reduceGT, Int.reduceGE, Int.reduceBEq, Int.reduceBNe, Nat.reduceLT, Nat.reduceLeDiff, Nat.reduceAdd, Nat.reduceSub, Nat.reduceMul, Nat.reduceEqDiff, Nat.reduceBEq, Nat.reduceBNe, reduceCtorEq, Int.reduceNeg, len_map]
  refine vcIf.dec (fun h' => ?_) (fun h' => ?_)
  · have hlt : i < ws.length := by simpa using h'
    obtain ⟨w, hw0, hw1, hd⟩ := at_i int1 ws hlt
    rw [hd, List.map_cons, List.foldl_cons] at hg
    have hp : (grow (fun w => int1 (shP t W w)) ws i).take i ++ [[AV.v (.int .i64 (IntKind.i64.wrap (Int.tdiv (IntKind.i64.wrap (t * w)) W)))]] = grow (fun w => int1 (shP t W w)) ws (i + 1) := grow_step (fun w => int1 (shP t W w)) hw0
    have hr : (grow (fun w => int1 (shR t W w)) ws i).take i ++ [[AV.v (.int .i64 (Int.tmod (IntKind.i64.wrap (t * w)) W))]] = grow (fun w => int1 (shR t W w)) ws (i + 1) := grow_step (fun w => int1 (shR t W w)) hw0
    have hpa : (grow (fun w => int1 (shP t W w)) ws (i + 1)).getD i [] = [AV.v (.int .i64 (shP t W w))] := grow_at (fun w => int1 (shP t W w)) hw0
    have hpl := grow_len (fun w => int1 (shP t W w)) (show i + 1 ≤ ws.length from hlt)
    have hi1 : int1 w = [AV.v (.int .i64 w)] := rfl
    have h8 : ((i + 1) * 8 ≤ 140737488355328) = True := by simp; omega
    have hii : ((i : Int) < ((i + 1 : Nat) : Int)) = True := by simp; omega
    simp only [↓RP, RQ, if_true, if_false, cond_true, cond_false, vcBin, bne, ne_eq, vcRet, resAll, resA, retOf, Int.reduceEq, Int.reduceNe, Int.reduceLT, Int.reduceLE, Int.reduceGT, Int.reduceGE, Int.reduceBEq, Int.reduceBNe, Nat.reduceLT, Nat.reduceLeDiff, Nat.reduceAdd, Nat.reduceSub, Nat.reduceMul, Nat.reduceEqDiff, Nat.reduceBEq, Nat.reduceBNe, reduceCtorEq, Int.reduceNeg, len_map, nn, tn, lt_cast hlt, hw1, hi1, hW0, elems, h8, ne_lt hb, ne_gt hb, ne_lt hc, ne_gt hc, ne_lt hb1, ne_gt hb1, ne_lt hc1, ne_gt hc1, ne_lt hb2, ne_gt hb2, ne_lt hc2, ne_gt hc2, ne_lt hb3, ne_gt hb3, ne_lt hc3, ne_gt hc3, hbc1, hbc2, grow_len (fun w => int1 (shP t W w)) hi, grow_len (fun w => int1 (shR t W w)) hi, true_le, hp, hr, hpa, hpl, hii, w_succ hlt hm]
    exact ⟨((i + 1, IntKind.i64.wrap (l - shP t W w)), M + 4, M + 1, M + 3), by show ws.length - (i + 1) < ws.length - i; omega, ⟨hlt, by show M + 1 < M + 4; omega, by show M + 3 < M + 4; omega, by show M + 1 ≠ M + 3; omega, hg⟩, dr_two _ _ _ _ _ _ (by simp only [↓RP, RQ, if_true, if_false, cond_true, cond_false, vcBin, bne, ne_eq, vcRet, resAll, resA, retOf, Int.reduceEq, Int.reduceNe, Int.reduceLT, Int.reduceLE, Int.reduceGT, Int.reduceGE, Int.reduceBEq, Int.reduceBNe, Nat.reduceLT, Nat.reduceLeDiff, Nat.reduceAdd, Nat.reduceSub, Nat.reduceMul, Nat.reduceEqDiff, Nat.reduceBEq, Nat.reduceBNe, reduceCtorEq, Int.reduceNeg, hp, ne_lt hb, ne_gt hb, ne_lt hc, ne_gt hc, ne_lt hb1, ne_gt hb1, ne_lt hc1, ne_gt hc1, ne_lt hb2, ne_gt hb2, ne_lt hc2, ne_gt hc2, ne_lt hb3, ne_gt hb3, ne_lt hc3, ne_gt hc3, hbc1, hbc2]) (by simp only [↓RP, RQ, if_true, if_false, cond_true, cond_false, vcBin, bne, ne_eq, vcRet, resAll, resA, retOf, Int.reduceEq, Int.reduceNe, Int.reduceLT, Int.reduceLE, Int.reduceGT, Int.reduceGE, Int.reduceBEq, Int.reduceBNe, Nat.reduceLT, Nat.reduceLeDiff, Nat.reduceAdd, Nat.reduceSub, Nat.reduceMul, Nat.reduceEqDiff, Nat.reduceBEq, Nat.reduceBNe, reduceCtorEq, Int.reduceNeg, hr, ne_lt hb, ne_gt hb, ne_lt hc, ne_gt hc, ne_lt hb1, ne_gt hb1, ne_lt hc1, ne_gt hc1, ne_lt hb2, ne_gt hb2, ne_lt hc2, ne_gt hc2, ne_lt hb3, ne_gt hb3, ne_lt hc3, ne_gt hc3, hbc1, hbc2]) (by simp only [↓RP, RQ, if_true, if_false, cond_true, cond_false, vcBin, bne, ne_eq, vcRet, resAll, resA, retOf, Int.reduceEq, Int.reduceNe, Int.reduceLT, Int.reduceLE, Int.reduceGT, Int.reduceGE, Int.reduceBEq, Int.reduceBNe, Nat.reduceLT, Nat.reduceLeDiff, Nat.reduceAdd, Nat.reduceSub, Nat.reduceMul, Nat.reduceEqDiff, Nat.reduceBEq, Nat.reduceBNe, reduceCtorEq, Int.reduceNeg]), by simp only [↓RP, RQ, if_true, if_false, cond_true, cond_false, vcBin, bne, ne_eq, vcRet, resAll, resA, retOf, Int.reduceEq, Int.reduceNe, Int.reduceLT, Int.reduceLE, Int.reduceGT, Int.reduceGE, Int.reduceBEq, Int.reduceBNe, Nat.reduceLT, Nat.reduceLeDiff, Nat.reduceAdd, Nat.reduceSub, Nat.reduceMul, Nat.reduceEqDiff, Nat.reduceBEq, Nat.reduceBNe, reduceCtorEq, Int.reduceNeg]⟩
  · have hge : i = ws.length := by simp at h'; omega
    subst hge
    rw [List.drop_length, List.map_nil, List.foldl_nil] at hg
    have hgp := grow_map (shP t W) ws
    have hgr := grow_map (shR t W) ws
    have hlb := shL_b t ws
    simp only [↓RP, RQ, if_true, if_false, cond_true, cond_false, vcBin, bne, ne_eq, vcRet, resAll, resA, retOf, Int.reduceEq, Int.reduceNe, Int.reduceLT, Int.reduceLE, Int.reduceGT, Int.reduceGE, Int.reduceBEq, Int.reduceBNe, Nat.reduceLT, Nat.reduceLeDiff, Nat.reduceAdd, Nat.reduceSub, Nat.reduceMul, Nat.reduceEqDiff, Nat.reduceBEq, Nat.reduceBNe, reduceCtorEq, Int.reduceNeg, hgp, hgr, ← hg]
    refine vcLoop.st (σ := Int × List Int × List Int) (shL t ws, ws.map (shP t W), ws.map (shR t W)) (fun s => s.1 < 9223372036854775808 ∧ s.2.1.length = ws.length ∧ s.2.2.length = ws.length ∧ shr t ws = shGo s.1.toNat s.2.1 s.2.2) (fun s => s.1.toNat) (fun s => hl M [(b, some ⟨1, s.2.1.map int1⟩), (c, some ⟨1, s.2.2.map int1⟩)])
      (fun s => [.any, .any, .any, .any, .any, .any, .own b ws.length, .own c ws.length, .v (.int .i64 s.1), .any, .any, .any, .any, .any, .any, .any, .any, .any, .any, .any, .any, .any, .any, .any, .any, .any, .any, .any, .any, .any, .any, .any, .any, .any, .any, .any, .any, .any, .any, .any, .any, .any, .any, .any, .any, .any, .any, .any, .any, .any, .any, .any, .any, .any, .any, .any, .any, .any, .any, .any, .any, .any, .any, .any, .any, .any, .any, .any, .any, .any, .any, .any, .any, .any, .any, .any, .any, .any, .any, .any, .any]) ⟨hlb, by simp, by simp, hS⟩ (dr_two _ _ _ _ _ _ (by simp only [↓RP, RQ, if_true, if_false, cond_true, cond_false, vcBin, bne, ne_eq, vcRet, resAll, resA, retOf, Int.reduceEq, Int.reduceNe, Int.reduceLT, Int.reduceLE, Int.reduceGT, Int.reduceGE, Int.reduceBEq, Int.reduceBNe, Nat.reduceLT, Nat.reduceLeDiff, Nat.reduceAdd, Nat.reduceSub, Nat.reduceMul, Nat.reduceEqDiff, Nat.reduceBEq, Nat.reduceBNe, reduceCtorEq, Int.reduceNeg]) (by simp only [↓RP, RQ, if_true, if_false, cond_true, cond_false, vcBin, bne, ne_eq, vcRet, resAll, resA, retOf, Int.reduceEq, Int.reduceNe, Int.reduceLT, Int.reduceLE, Int.reduceGT, Int.reduceGE, Int.reduceBEq, Int.reduceBNe, Nat.reduceLT, Nat.reduceLeDiff, Nat.reduceAdd, Nat.reduceSub, Nat.reduceMul, Nat.reduceEqDiff, Nat.reduceBEq, Nat.reduceBNe, reduceCtorEq, Int.reduceNeg, hbc1, hbc2]) (by simp only [↓RP, RQ, if_true, if_false, cond_true, cond_false, vcBin, bne, ne_eq, vcRet, resAll, resA, retOf, Int.reduceEq, Int.reduceNe, Int.reduceLT, Int.reduceLE, Int.reduceGT, Int.reduceGE, Int.reduceBEq, Int.reduceBNe, Nat.reduceLT, Nat.reduceLeDiff, Nat.reduceAdd, Nat.reduceSub, Nat.reduceMul, Nat.reduceEqDiff, Nat.reduceBEq, Nat.reduceBNe, reduceCtorEq, Int.reduceNeg])) (by simp only [↓RP, RQ, if_true, if_false, cond_true, cond_false, vcBin, bne, ne_eq, vcRet, resAll, resA, retOf, Int.reduceEq, Int.reduceNe, Int.reduceLT, Int.reduceLE, Int.reduceGT, Int.reduceGE, Int.reduceBEq, Int.reduceBNe, Nat.reduceLT, Nat.reduceLeDiff, Nat.reduceAdd, Nat.reduceSub, Nat.reduceMul, Nat.reduceEqDiff, Nat.reduceBEq, Nat.reduceBNe, reduceCtorEq, Int.reduceNeg]) ?_
    rintro ⟨l, ps, rs⟩ ⟨hl0, hps, hrs, hg⟩
    replace hl0 : l < 9223372036854775808 := hl0
    replace hps : ps.length = ws.length := hps
    replace hrs : rs.length = ws.length := hrs
    replace hg : shr t ws = shGo l.toNat ps rs := hg
    simp only [↓RP, RQ, if_true, if_false, cond_true, cond_false, vcBin, bne, ne_eq, vcRet, resAll, resA, retOf, Int.reduceEq, Int.reduceNe, Int.reduceLT, Int.reduceLE, Int.reduceGT, Int.reduceGE, Int.reduceBEq, Int.reduceBNe, Nat.reduceLT, Nat.reduceLeDiff, Nat.reduceAdd, Nat.reduceSub, Nat.reduceMul, Nat.reduceEqDiff, Nat.reduceBEq, Nat.reduceBNe, reduceCtorEq, Int.reduceNeg]
    first | refine vcIf.dec (fun h5 => ?_) (fun h5 => ?_) | refine vcQIf.dec (fun h5 => ?_) (fun h5 => ?_)
    · have hrne : rs ≠ [] := fun e => hne (List.eq_nil_of_length_eq_zero (by rw [← hrs, e]; rfl))
      obtain ⟨hal, hax⟩ := am_lt hrne
      have hap : am rs < ps.length := by omega
      have haw : am rs < ws.length := by omega
      have hst : ∀ (qs : List Int) (n : Int), (qs.map int1).set (am rs) [.v (.int .i64 n)] = (qs.set (am rs) n).map int1 := fun qs n => by rw [List.map_set]; rfl
      have hga : (ps.map int1).getD (am rs) [] = [.v (.int .i64 (ps.getD (am rs) 0))] := by simp [List.getD_eq_getElem?_getD, hap, int1]
      have hgb : (rs.map int1).getD (am rs) [] = [.v (.int .i64 (rs.getD (am rs) 0))] := by simp [List.getD_eq_getElem?_getD, hal, int1]
      have hwl : IntKind.i64.wrap (l - 1) = l - 1 := w64 (by omega) (by omega)
      rw [show l.toNat = (l - 1).toNat + 1 by omega, shGo] at hg
      have hr0 : 0 < rs.length := List.length_pos_iff.2 hrne
      obtain ⟨r0, hr00, _, _⟩ := at_i int1 rs hr0
      simp only [↓RP, RQ, if_true, if_false, cond_true, cond_false, vcBin, bne, ne_eq, vcRet, resAll, resA, retOf, Int.reduceEq, Int.reduceNe, Int.reduceLT, Int.reduceLE, Int.reduceGT, Int.reduceGE, Int.reduceBEq, Int.reduceBNe, Nat.reduceLT, Nat.reduceLeDiff, Nat.reduceAdd, Nat.reduceSub, Nat.reduceMul, Nat.reduceEqDiff, Nat.reduceBEq, Nat.reduceBNe, reduceCtorEq, Int.reduceNeg, h5]
      refine vcLoop.st (σ := Nat × Nat × Int) (0, 0, r0) (fun s => s.1 ≤ rs.length ∧ rs[s.2.1]? = some s.2.2 ∧ am rs = bst (rs.drop s.1) s.1 s.2.1 s.2.2) (fun s => rs.length - s.1) (fun s => hl M [(b, some ⟨1, ps.map int1⟩), (c, some ⟨1, rs.map int1⟩)])
        (fun s => [.any, .any, .any, .any, .any, .any, .own b ws.length, .own c ws.length, .v (.int .i64 l), .any, .v (.int .i64 s.2.1), .v (.int .i64 s.1), .any, .any, .any, .any, .any, .any, .any, .any, .any, .any, .any, .any, .any, .any, .any, .any, .any, .any, .any, .any, .any, .any, .any, .any, .any, .any, .any, .any, .any, .any, .any, .any, .any, .any, .any, .any, .any, .any, .any, .any, .any, .any, .any, .any, .any, .any, .any, .any, .any, .any, .any, .any, .any, .any, .any, .any, .any, .any, .any, .any, .any, .any, .any, .any, .any, .any, .any, .any, .any]) ⟨Nat.zero_le _, hr00, (bst_am hr00).symm⟩ (Dr.refl _) (by simp only [↓RP, RQ, if_true, if_false, cond_true, cond_false, vcBin, bne, ne_eq, vcRet, resAll, resA, retOf, Int.reduceEq, Int.reduceNe, Int.reduceLT, Int.reduceLE, Int.reduceGT, Int.reduceGE, Int.reduceBEq, Int.reduceBNe, Nat.reduceLT, Nat.reduceLeDiff, Nat.reduceAdd, Nat.reduceSub, Nat.reduceMul, Nat.reduceEqDiff, Nat.reduceBEq, Nat.reduceBNe, reduceCtorEq, Int.reduceNeg]) ?_
      rintro ⟨j, k, v⟩ ⟨hj, hk, hb0⟩
      replace hj : j ≤ rs.length := hj
      replace hk : rs[k]? = some v := hk
      replace hb0 : am rs = bst (rs.drop j) j k v := hb0
      obtain ⟨hkl, hkr⟩ := at_some int1 hk
      have hkw : k < ws.length := by omega
      have hi2 : int1 v = [AV.v (.int .i64 v)] := rfl
      simp only [↓RP, RQ, if_true, if_false, cond_true, cond_false, vcBin, bne, ne_eq, vcRet, resAll, resA, retOf, Int.reduceEq, Int.reduceNe, Int.reduceLT, Int.reduceLE, Int.reduceGT, Int.reduceGE, Int.reduceBEq, Int.reduceBNe, Nat.reduceLT, Nat.reduceLeDiff, Nat.reduceAdd, Nat.reduceSub, Nat.reduceMul, Nat.reduceEqDiff, Nat.reduceBEq, Nat.reduceBNe, reduceCtorEq, Int.reduceNeg]
      refine vcIf.dec (fun h' => ?_) (fun h' => ?_)
      · have hlw : j < ws.length := by simpa using h'
        have hlt : j < rs.length := by omega
        obtain ⟨x, hx0, hx1, hd⟩ := at_i int1 rs hlt
        have hi3 : int1 x = [AV.v (.int .i64 x)] := rfl
        rw [hd, bst] at hb0
        simp only [↓RP, RQ, if_true, if_false, cond_true, cond_false, vcBin, bne, ne_eq, vcRet, resAll, resA, retOf, Int.reduceEq, Int.reduceNe, Int.reduceLT, Int.reduceLE, Int.reduceGT, Int.reduceGE, Int.reduceBEq, Int.reduceBNe, Nat.reduceLT, Nat.reduceLeDiff, Nat.reduceAdd, Nat.reduceSub, Nat.reduceMul, Nat.reduceEqDiff, Nat.reduceBEq, Nat.reduceBNe, reduceCtorEq, Int.reduceNeg, nn, tn, lt_cast hlw, lt_cast hkw, len_map, hlt, hkl, hbc1, hbc2, hx1, hkr, hi2, hi3]
        first | refine vcIf.dec (fun h6 => ?_) (fun h6 => ?_) | refine vcQIf.dec (fun h6 => ?_) (fun h6 => ?_)
        · rw [if_pos h6] at hb0
          simp only [↓RP, RQ, if_true, if_false, cond_true, cond_false, vcBin, bne, ne_eq, vcRet, resAll, resA, retOf, Int.reduceEq, Int.reduceNe, Int.reduceLT, Int.reduceLE, Int.reduceGT, Int.reduceGE, Int.reduceBEq, Int.reduceBNe, Nat.reduceLT, Nat.reduceLeDiff, Nat.reduceAdd, Nat.reduceSub, Nat.reduceMul, Nat.reduceEqDiff, Nat.reduceBEq, Nat.reduceBNe, reduceCtorEq, Int.reduceNeg, h6, w_succ hlt (Nat.le_trans (show rs.length ≤ ws.length by omega) hm)]
          exact ⟨(j + 1, j, x), by show rs.length - (j + 1) < rs.length - j; omega, ⟨hlt, hx0, hb0⟩, Dr.refl _, by simp only [↓RP, RQ, if_true, if_false, cond_true, cond_false, vcBin, bne, ne_eq, vcRet, resAll, resA, retOf, Int.reduceEq, Int.reduceNe, Int.reduceLT, Int.reduceLE, Int.reduceGT, Int.reduceGE, Int.reduceBEq, Int.reduceBNe, Nat.reduceLT, Nat.reduceLeDiff, Nat.reduceAdd, Nat.reduceSub, Nat.reduceMul, Nat.reduceEqDiff, Nat.reduceBEq, Nat.reduceBNe, reduceCtorEq, Int.reduceNeg]⟩
        · rw [if_neg h6] at hb0
          simp only [↓RP, RQ, if_true, if_false, cond_true, cond_false, vcBin, bne, ne_eq, vcRet, resAll, resA, retOf, Int.reduceEq, Int.reduceNe, Int.reduceLT, Int.reduceLE, Int.reduceGT, Int.reduceGE, Int.reduceBEq, Int.reduceBNe, Nat.reduceLT, Nat.reduceLeDiff, Nat.reduceAdd, Nat.reduceSub, Nat.reduceMul, Nat.reduceEqDiff, Nat.reduceBEq, Nat.reduceBNe, reduceCtorEq, Int.reduceNeg, h6, w_succ hlt (Nat.le_trans (show rs.length ≤ ws.length by omega) hm)]
          exact ⟨(j + 1, k, v), by show rs.length - (j + 1) < rs.length - j; omega, ⟨hlt, hk, hb0⟩, Dr.refl _, by simp only [↓RP, RQ, if_true, if_false, cond_true, cond_false, vcBin, bne, ne_eq, vcRet, resAll, resA, retOf, Int.reduceEq, Int.reduceNe, Int.reduceLT, Int.reduceLE, Int.reduceGT, Int.reduceGE, Int.reduceBEq, Int.reduceBNe, Nat.reduceLT, Nat.reduceLeDiff, Nat.reduceAdd, Nat.reduceSub, Nat.reduceMul, Nat.reduceEqDiff, Nat.reduceBEq, Nat.reduceBNe, reduceCtorEq, Int.reduceNeg]⟩
      · have hge : j = rs.length := by simp at h'; omega
        subst hge
        rw [List.drop_length, bst] at hb0
        subst hb0
        simp only [↓RP, RQ, if_true, if_false, cond_true, cond_false, vcBin, bne, ne_eq, vcRet, resAll, resA, retOf, Int.reduceEq, Int.reduceNe, Int.reduceLT, Int.reduceLE, Int.reduceGT, Int.reduceGE, Int.reduceBEq, Int.reduceBNe, Nat.reduceLT, Nat.reduceLeDiff, Nat.reduceAdd, Nat.reduceSub, Nat.reduceMul, Nat.reduceEqDiff, Nat.reduceBEq, Nat.reduceBNe, reduceCtorEq, Int.reduceNeg, nn, tn, lt_cast haw, len_map, hap, hal, hbc1, hbc2, hga, hgb, hst, hwl]
        exact ⟨(l - 1, ps.set (am rs) (IntKind.i64.wrap (ps.getD (am rs) 0 + 1)), rs.set (am rs) (-1)), by show (l - 1).toNat < l.toNat; omega, ⟨by show l - 1 < _; omega, by show (ps.set _ _).length = _; rw [List.length_set]; exact hps, by show (rs.set _ _).length = _; rw [List.length_set]; exact hrs, hg⟩, dr_two _ _ _ _ _ _ (by simp only [↓RP, RQ, if_true, if_false, cond_true, cond_false, vcBin, bne, ne_eq, vcRet, resAll, resA, retOf, Int.reduceEq, Int.reduceNe, Int.reduceLT, Int.reduceLE, Int.reduceGT, Int.reduceGE, Int.reduceBEq, Int.reduceBNe, Nat.reduceLT, Nat.reduceLeDiff, Nat.reduceAdd, Nat.reduceSub, Nat.reduceMul, Nat.reduceEqDiff, Nat.reduceBEq, Nat.reduceBNe, reduceCtorEq, Int.reduceNeg, hbc1, hbc2]) (by simp only [↓RP, RQ, if_true, if_false, cond_true, cond_false, vcBin, bne, ne_eq, vcRet, resAll, resA, retOf, Int.reduceEq, Int.reduceNe, Int.reduceLT, Int.reduceLE, Int.reduceGT, Int.reduceGE, Int.reduceBEq, Int.reduceBNe, Nat.reduceLT, Nat.reduceLeDiff, Nat.reduceAdd, Nat.reduceSub, Nat.reduceMul, Nat.reduceEqDiff, Nat.reduceBEq, Nat.reduceBNe, reduceCtorEq, Int.reduceNeg, hbc1, hbc2]) (by simp only [↓RP, RQ, if_true, if_false, cond_true, cond_false, vcBin, bne, ne_eq, vcRet, resAll, resA, retOf, Int.reduceEq, Int.reduceNe, Int.reduceLT, Int.reduceLE, Int.reduceGT, Int.reduceGE, Int.reduceBEq, Int.reduceBNe, Nat.reduceLT, Nat.reduceLeDiff, Nat.reduceAdd, Nat.reduceSub, Nat.reduceMul, Nat.reduceEqDiff, Nat.reduceBEq, Nat.reduceBNe, reduceCtorEq, Int.reduceNeg]), by simp only [↓RP, RQ, if_true, if_false, cond_true, cond_false, vcBin, bne, ne_eq, vcRet, resAll, resA, retOf, Int.reduceEq, Int.reduceNe, Int.reduceLT, Int.reduceLE, Int.reduceGT, Int.reduceGE, Int.reduceBEq, Int.reduceBNe, Nat.reduceLT, Nat.reduceLeDiff, Nat.reduceAdd, Nat.reduceSub, Nat.reduceMul, Nat.reduceEqDiff, Nat.reduceBEq, Nat.reduceBNe, reduceCtorEq, Int.reduceNeg]⟩
    · have hz : l.toNat = 0 := by omega
      rw [hz, shGo] at hg
      simp only [↓RP, RQ, if_true, if_false, cond_true, cond_false, vcBin, bne, ne_eq, vcRet, resAll, resA, retOf, Int.reduceEq, Int.reduceNe, Int.reduceLT, Int.reduceLE, Int.reduceGT, Int.reduceGE, Int.reduceBEq, Int.reduceBNe, Nat.reduceLT, Nat.reduceLeDiff, Nat.reduceAdd, Nat.reduceSub, Nat.reduceMul, Nat.reduceEqDiff, Nat.reduceBEq, Nat.reduceBNe, reduceCtorEq, Int.reduceNeg, h5]
      exact ⟨b, by rw [len_map, hg, hps], by rw [hg]; exact look_same _ _ _⟩
end Go.Proofs.Ytbgnlnlgjmipfaa
