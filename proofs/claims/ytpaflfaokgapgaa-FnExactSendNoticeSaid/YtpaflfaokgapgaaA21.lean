/- Texts compared, and lists that rise. Laws of the model alone. -/
import Derived.Test.YtpaflfaokgapgaaA20
import Derived.Laws.Externs
import Derived.Laws.Strings
import Derived.Lib.Bytealg
namespace Go.Abs
def cmpS (a b : ByteArray) : Int := Lib.compareBytes a.data.toList b.data.toList
def less (a b : ByteArray) : Bool := Op.bytesLess a.toList b.toList
theorem cmp_less : ∀ x y : List UInt8, decide (Lib.compareBytes x y ≥ 0) = !Op.bytesLess x y
  | [], [] => rfl
  | [], _ :: _ => rfl
  | _ :: _, [] => rfl
  | a :: x, b :: y => by
    simp only [Lib.compareBytes, Op.bytesLess]
    by_cases h : a < b
    · simp [h]
    · by_cases h' : b < a
      · have hne : (a == b) = false := by
          rw [beq_eq_false_iff_ne]; intro e; subst e; exact h h'
        simp [h, h', hne]
      · have he : a = b := UInt8.le_antisymm (UInt8.not_lt.1 h') (UInt8.not_lt.1 h)
        subst he
        simp only [h, if_false, beq_self_eq_true, Bool.true_and, decide_false, Bool.false_or]
        exact cmp_less x y
theorem cmpS_less (a b : ByteArray) : decide (cmpS a b ≥ 0) = !less a b := by
  unfold cmpS less
  rw [ByteArray.toList_eq, ByteArray.toList_eq]
  exact cmp_less _ _
/-- The runtime's own comparison of two texts. -/
theorem cmp_runs {P : Program} {f : Nat} {fn : Func} (hf : P.funcs[f]? = some fn) (hname : (fn.name == "runtime.NumGoroutine") = false) (hb : fn.body.isNone = true) (hn : Extern.findNext fn = none)
    (he : Extern.find fn = some Extern.BytealgCompare.compare) (a b : ByteArray) (H : Heap) : Runs P f [.v (.string a), .v (.string b)] H fun r H' => r = .v (.int .i64 (cmpS a b)) ∧ H' = H := by
  refine Runs.of fun ρ w vs hR hv => ?_
  obtain ⟨x, y, rfl⟩ : ∃ x y, vs = [x, y] := by
    have := hv.1
    match vs, this with
    | [x, y], _ => exact ⟨x, y, rfl⟩
  have h0 := (hv.2 0 _ x rfl rfl).v_inv
  have h1 := (hv.2 1 _ y rfl rfl).v_inv
  subst h0; subst h1
  rw [run_callFunc_extern hf hname hb hn he]
  rw [show ([Value.string a, Value.string b] : List Value).toArray = #[.string a, .string b] from rfl, Lib.run_compareString]
  exact ⟨.v (.int .i64 (cmpS a b)), H, ρ, ⟨rfl, rfl⟩, hR, .v _, Nx.refl _ _ _⟩
/-- Each element is less than the next one. -/
def rise {α : Type} (lt : α → α → Bool) : Option α → List α → Bool
  | _, [] => true
  | none, x :: xs => rise lt (some x) xs
  | some p, x :: xs => lt p x && rise lt (some x) xs
/-- Elements that are good and rise. -/
def chk {α : Type} (good : α → Bool) (lt : α → α → Bool) : Option α → List α → Bool
  | _, [] => true
  | none, x :: xs => good x && chk good lt (some x) xs
  | some p, x :: xs => good x && lt p x && chk good lt (some x) xs
theorem chk_eq {α : Type} (good : α → Bool) (lt : α → α → Bool) : ∀ (o : Option α) (xs : List α), chk good lt o xs = (xs.all good && rise lt o xs)
  | _, [] => rfl
  | none, x :: xs => by simp only [chk, List.all_cons, rise, chk_eq good lt (some x) xs, Bool.and_assoc]
  | some p, x :: xs => by
    simp only [chk, List.all_cons, rise, chk_eq good lt (some x) xs]
    cases good x <;> cases lt p x <;> simp
theorem at_prev {α : Type} (f : α → List AV) (xs : List α) {i : Nat} (h : i < xs.length) (h0 : 0 < i) : ∃ x, xs[i - 1]? = some x ∧ (xs.map f).getD (i - 1) [] = f x := by
  obtain ⟨x, h1, h2, _⟩ := at_i f xs (i := i - 1) (by omega)
  exact ⟨x, h1, h2⟩
theorem w_pred {i n : Nat} (h : i < n) (h0 : 0 < i) (hn : n ≤ maxLen) : IntKind.i64.wrap ((i : Int) - 1) = ((i - 1 : Nat) : Int) := by
  have : maxLen = 9223372036854775807 := rfl
  rw [w64 (by omega) (by omega)]; omega
theorem gt_cast {i : Nat} (h : 0 < i) : ((i : Int) > 0) = True := by simp; omega
theorem less_eq (a b : ByteArray) : Op.bytesLess a.toList b.toList = less a b := rfl
theorem idx_find {α : Type} (p : α → Bool) : ∀ (xs : List α) (j : Int), (xs.find? p = none ∧ idx p xs j = -1) ∨ ∃ i x, xs.find? p = some x ∧ idx p xs j = j + (i : Nat) ∧ i < xs.length ∧ xs[i]? = some x ∧ p x = true
  | [], j => .inl ⟨rfl, rfl⟩
  | x :: xs, j => by
    by_cases h : p x = true
    · refine .inr ⟨0, x, by rw [List.find?_cons, h], by rw [idx, h]; simp, by simp, rfl, h⟩
    · have h' : p x = false := by simpa using h
      rcases idx_find p xs (j + 1) with ⟨h1, h2⟩ | ⟨i, y, h1, h2, h3, h4, h5⟩
      · exact .inl ⟨by rw [List.find?_cons, h']; exact h1, by rw [idx, h']; exact h2⟩
      · refine .inr ⟨i + 1, y, by rw [List.find?_cons, h']; exact h1, ?_, by simp; omega, by simpa using h4, h5⟩
        rw [idx, h', cond_false, h2]; push_cast; omega
theorem at_some {α : Type} (f : α → List AV) {xs : List α} {i : Nat} {x : α} (h : xs[i]? = some x) : i < xs.length ∧ (xs.map f).getD i [] = f x := by
  have hlt := (List.getElem?_eq_some_iff.1 h).1
  obtain ⟨y, h1, h2, _⟩ := at_i f xs hlt
  rw [h] at h1; cases h1
  exact ⟨hlt, h2⟩
/-- A list that is being appended to. -/
def grow {α : Type} (f : α → List AV) (xs : List α) (i : Nat) : List (List AV) := (xs.take i).map f
theorem grow_zero {α : Type} (f : α → List AV) (xs : List α) : grow f xs 0 = [] := rfl
theorem grow_len {α : Type} (f : α → List AV) {xs : List α} {i : Nat} (h : i ≤ xs.length) : (grow f xs i).length = i := by simp [grow]; omega
theorem grow_step {α : Type} (f : α → List AV) {xs : List α} {i : Nat} {x : α} (hx : xs[i]? = some x) : (grow f xs i).take i ++ [f x] = grow f xs (i + 1) := by
  have hlt := (List.getElem?_eq_some_iff.1 hx).1
  have h1 : (grow f xs i).take i = grow f xs i := List.take_of_length_le (by rw [grow_len f (Nat.le_of_lt hlt)]; exact Nat.le_refl _)
  rw [h1]
  simp only [grow]
  rw [List.take_add_one, hx]; simp
theorem grow_end {α : Type} (f : α → List AV) (xs : List α) : grow f xs xs.length = xs.map f := by simp [grow]
theorem ne_lt {b M : Nat} (h : b < M) : (b = M) = False := by simp; omega
theorem ne_gt {b M : Nat} (h : b < M) : (M = b) = False := by simp; omega
theorem true_le (n : Nat) : (n ≤ n) = True := by simp
def int1 (n : Int) : List AV := [.v (.int .i64 n)]
theorem int1_nr (n : Int) : ∀ a, a ∈ int1 n → NoRef a := norefs_cons (.v _) norefs_nil
/-- The machine's sum of numbers. -/
def sumW (ns : List Int) : Int := ns.foldl (fun a n => IntKind.i64.wrap (a + n)) 0
def sumI : List Int → Int
  | [] => 0
  | n :: ns => n + sumI ns
theorem sum_fold : ∀ (ns : List Int) (a : Int), (∀ n, n ∈ ns → 0 ≤ n ∧ n ≤ 1000000000000) → 0 ≤ a → a + 1000000000000 * ns.length ≤ 9000000000000000000 → ns.foldl (fun a n => IntKind.i64.wrap (a + n)) a = a + sumI ns ∧ 0 ≤ sumI ns ∧ sumI ns ≤ 1000000000000 * ns.length
  | [], a, _, _, _ => ⟨by simp [sumI], by simp [sumI], by simp [sumI]⟩
  | n :: ns, a, h, ha, hb => by
    have hn := h n (List.mem_cons_self ..)
    simp only [List.length_cons] at hb ⊢
    push_cast at hb ⊢
    rw [List.foldl_cons, w64 (by omega) (by omega)]
    obtain ⟨h1, h2, h3⟩ := sum_fold ns (a + n) (fun m hm => h m (List.mem_cons_of_mem _ hm)) (by omega) (by omega)
    rw [h1]
    exact ⟨by simp only [sumI]; omega, by simp only [sumI]; omega, by simp only [sumI]; omega⟩
theorem sumW_eq {ns : List Int} (h : ∀ n, n ∈ ns → 0 ≤ n ∧ n ≤ 1000000000000) (hl : ns.length ≤ 9000000) : sumW ns = sumI ns ∧ 0 ≤ sumI ns ∧ sumI ns ≤ 1000000000000 * ns.length := by
  have := sum_fold ns 0 h (Int.le_refl _) (by omega)
  unfold sumW
  rw [this.1]; exact ⟨by omega, this.2⟩
end Go.Abs
