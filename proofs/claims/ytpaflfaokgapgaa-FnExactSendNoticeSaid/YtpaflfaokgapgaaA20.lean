/- Lists in loops: what stands at an index, and the sums of sizes. Laws of the model alone. -/
import Derived.Test.YtpaflfaokgapgaaA19
import Derived.IntWalk
namespace Go.Abs
theorem w64 {n : Int} (h : -9223372036854775808 ≤ n) (h' : n < 9223372036854775808) : IntKind.i64.wrap n = n := by
  simp only [IntKind.wrap, IntKind.bits, IntKind.signed]; simp; split <;> omega
theorem w_succ {i n : Nat} (h : i < n) (hn : n ≤ maxLen) : IntKind.i64.wrap ((i : Int) + 1) = ((i + 1 : Nat) : Int) := by
  have : maxLen = 9223372036854775807 := rfl
  rw [w64 (by omega) (by omega)]; rfl
theorem nn (i : Nat) : (0 ≤ (i : Int)) = True := by simp
theorem lt_cast {i n : Nat} (h : i < n) : ((i : Int) < (n : Int)) = True := by simp [h]
theorem nlt_cast {i n : Nat} (h : ¬ i < n) : ((i : Int) < (n : Int)) = False := by simp at h; simp; omega
theorem tn (i : Nat) : (i : Int).toNat = i := by simp
theorem len_map {α : Type} (f : α → List AV) (xs : List α) : (xs.map f).length = xs.length := List.length_map f
theorem at_i {α : Type} (f : α → List AV) (xs : List α) {i : Nat} (h : i < xs.length) : ∃ x, xs[i]? = some x ∧ (xs.map f).getD i [] = f x ∧ xs.drop i = x :: xs.drop (i + 1) := by
  refine ⟨xs[i], List.getElem?_eq_getElem h, ?_, List.drop_eq_getElem_cons h⟩
  rw [List.getD_eq_getElem?_getD, List.getElem?_map, List.getElem?_eq_getElem h]; rfl
theorem norefs_cons {a : AV} {l : List AV} (h : NoRef a) (k : ∀ x, x ∈ l → NoRef x) : ∀ x, x ∈ a :: l → NoRef x := fun x hx => (List.mem_cons.1 hx).elim (fun e => by rw [e]; exact h) (k x)
theorem norefs_nil : ∀ x, x ∈ ([] : List AV) → NoRef x := fun x hx => by cases hx
theorem norefs_map {α : Type} {f : α → List AV} (h : ∀ x, ∀ a, a ∈ f x → NoRef a) (xs : List α) : ∀ r, r ∈ xs.map f → ∀ a, a ∈ r → NoRef a := fun r hr => by
  obtain ⟨x, _, rfl⟩ := List.mem_map.1 hr; exact h x
theorem noros_cons {a : AV} {l : List AV} (h : NoRo a) (k : ∀ x, x ∈ l → NoRo x) : ∀ x, x ∈ a :: l → NoRo x := fun x hx => (List.mem_cons.1 hx).elim (fun e => by rw [e]; exact h) (k x)
theorem noros_nil : ∀ x, x ∈ ([] : List AV) → NoRo x := fun x hx => by cases hx

/-- What is left of a budget after a list: -1 where it is short. -/
def szGo {α : Type} (f : α → Int → Int) : List α → Int → Int
  | [], l => l
  | x :: xs, l => if f x l < 0 then -1 else szGo f xs (f x l)
def szS {α : Type} (f : α → Int → Int) (xs : List α) (l : Int) : Int := if IntKind.i64.wrap (l - xs.length) < 0 then -1 else szGo f xs (IntKind.i64.wrap (l - xs.length))
theorem szS_len {α : Type} {f : α → Int → Int} {xs : List α} {l : Int} (h : 0 ≤ szS f xs l) (hn : xs.length ≤ maxLen) (hl : 0 ≤ l) (hl' : l ≤ 1048576) : xs.length ≤ 1048576 := by
  have : maxLen = 9223372036854775807 := rfl
  unfold szS at h
  split at h
  · omega
  · rename_i hh; rw [w64 (by omega) (by omega)] at hh; omega
theorem if_neg1 {p : Prop} [Decidable p] (h : p) (b : Int) : (if p then (-1 : Int) else b) = -1 := if_pos h
/-- A list's rows of the same kind, from the kinds of cells. -/
theorem rows_of {α : Type} {W : α → Prop} {ks : List LK} {f : α → List AV} (hf : ∀ r, RowOk ks r → ∃ x, r = f x ∧ W x) {av : AV} (h : LeafOk (.sl ks) av) : ∃ xs : List α, av = .ro ks.length (xs.map f) ∧ xs.length ≤ maxLen ∧ ∀ x, x ∈ xs → W x := by
  cases h with | sl _ rows h1 h2 h3 =>
  suffices hs : ∀ l : List (List AV), (∀ r, r ∈ l → RowOk ks r) → ∃ xs : List α, l = xs.map f ∧ ∀ x, x ∈ xs → W x by
    obtain ⟨xs, rfl, hw⟩ := hs rows fun r hr => ⟨h2 r hr, h3 r hr⟩
    exact ⟨xs, rfl, by simpa using h1, hw⟩
  intro l
  induction l with
  | nil => intro _; exact ⟨[], rfl, fun x hx => by cases hx⟩
  | cons r l ih =>
    intro h
    obtain ⟨xs, rfl, hw⟩ := ih fun r' hr' => h r' (List.mem_cons_of_mem _ hr')
    obtain ⟨x, rfl, hx⟩ := hf r (h r (List.mem_cons_self ..))
    exact ⟨x :: xs, rfl, fun y hy => (List.mem_cons.1 hy).elim (fun e => by rw [e]; exact hx) (hw y)⟩
theorem row_cons {k : LK} {ks : List LK} {r : List AV} (h : RowOk (k :: ks) r) : ∃ a l, r = a :: l ∧ LeafOk k a ∧ RowOk ks l := by
  cases r with
  | nil => have := h.1; simp at this
  | cons a l => exact ⟨a, l, rfl, h.2 0 k a rfl rfl, by have := h.1; simpa using this, fun i k' a' h1 h2 => h.2 (i + 1) k' a' (by simpa using h1) (by simpa using h2)⟩
theorem row_nil {r : List AV} (h : RowOk [] r) : r = [] := List.eq_nil_of_length_eq_zero (by have := h.1; simpa using this)
theorem leaf_int {k : IntKind} {a : AV} (h : LeafOk (.int k) a) : ∃ n, a = .v (.int k n) ∧ (Lit.int k n).wf = true := by cases h with | int _ n w => exact ⟨n, rfl, w⟩
theorem leaf_str {a : AV} (h : LeafOk .str a) : ∃ s, a = .v (.string s) ∧ s.size ≤ maxLen := by cases h with | str s w => exact ⟨s, rfl, w⟩
theorem leaf_bool {a : AV} (h : LeafOk .bool a) : ∃ b, a = .v (.bool b) := by cases h with | bool b => exact ⟨b, rfl⟩

/-- One string's part of a budget. -/
def szStr (n : Nat) (l : Int) (k : Int → Int) : Int := if IntKind.i64.wrap (l - n) < 0 then -1 else k (IntKind.i64.wrap (l - n))
/-- A slice that is being filled. -/
def fillR {α : Type} (f : α → List AV) (xs : List α) (z : List AV) (i : Nat) : List (List AV) := (xs.map f).take i ++ List.replicate (xs.length - i) z
theorem fillR_zero {α : Type} (f : α → List AV) (xs : List α) (z : List AV) : fillR f xs z 0 = List.replicate xs.length z := rfl
theorem fillR_len {α : Type} (f : α → List AV) (xs : List α) (z : List AV) {i : Nat} (h : i ≤ xs.length) : (fillR f xs z i).length = xs.length := by
  simp [fillR]; omega
theorem fillR_at {α : Type} (f : α → List AV) (xs : List α) (z : List AV) {i : Nat} (h : i < xs.length) : (fillR f xs z i).getD i [] = z := by
  simp only [fillR, List.getD_eq_getElem?_getD]
  rw [List.getElem?_append_right (by simp; omega)]
  simp only [List.length_take, List.length_map]
  rw [List.getElem?_replicate, if_pos (by omega)]; rfl
theorem fillR_set {α : Type} (f : α → List AV) (xs : List α) (z : List AV) {i : Nat} {x : α} (h : i < xs.length) (hx : xs[i]? = some x) : (fillR f xs z i).set i (f x) = fillR f xs z (i + 1) := by
  apply List.ext_getElem?
  intro j
  rw [List.getElem?_set]
  have hl : ∀ k, k ≤ xs.length → ((xs.map f).take k).length = k := fun k hk => by simp; omega
  have hlen := fillR_len f xs z (i := i) (by omega)
  by_cases hj : i = j
  · subst hj
    rw [if_pos rfl, if_pos (by rw [hlen]; exact h)]
    simp only [fillR]
    rw [List.getElem?_append_left (by rw [hl _ h]; omega), List.getElem?_take, if_pos (by omega), List.getElem?_map, hx]; rfl
  · rw [if_neg hj]
    simp only [fillR]
    by_cases hlt : j < i
    · rw [List.getElem?_append_left (by rw [hl _ (by omega)]; exact hlt), List.getElem?_append_left (by rw [hl _ h]; omega), List.getElem?_take, List.getElem?_take, if_pos hlt, if_pos (by omega)]
    · rw [List.getElem?_append_right (by rw [hl _ (by omega)]; omega), List.getElem?_append_right (by rw [hl _ h]; omega), hl _ (by omega), hl _ h, List.getElem?_replicate, List.getElem?_replicate]
      by_cases hk : j < xs.length
      · rw [if_pos (by omega), if_pos (by omega)]
      · rw [if_neg (by omega), if_neg (by omega)]
theorem fillR_end {α : Type} (f : α → List AV) (xs : List α) (z : List AV) : fillR f xs z xs.length = xs.map f := by
  have : (xs.map f).take xs.length = xs.map f := List.take_of_length_le (by simp)
  simp [fillR, this]
theorem Fz.all {H : Heap} {b n sz : Nat} {el : List (List AV)} (h : H.m b = some ⟨sz, el⟩) (hn : n = el.length) : Fz H [] (.own b n) (.ro sz el) := by
  have := Fz.own (H := H) (bs := []) b n ⟨sz, el⟩ h (by simp) (by rw [hn]; exact Nat.le_refl _) (.inl rfl)
  simpa [hn] using this
theorem noref_ro {α : Type} {sz : Nat} {f : α → List AV} (h : ∀ x, ∀ a, a ∈ f x → NoRef a) (xs : List α) : NoRef (.ro sz (xs.map f)) := .ro _ _ (norefs_map h xs)
theorem rep_len (n : Nat) (z : List AV) : (List.replicate n z).length = n := List.length_replicate
theorem str_refl (s : ByteArray) : (s.toList == s.toList) = true := by simp
theorem int_refl (n : Int) : (n == n) = true := by simp
theorem boo_refl (n : Bool) : (n == n) = true := by simp
theorem decT {p : Prop} [Decidable p] (h : p) : decide p = true := decide_eq_true h
theorem decF {p : Prop} [Decidable p] (h : ¬ p) : decide p = false := decide_eq_false h
/-- The first index at which a predicate holds, or -1. -/
def idx {α : Type} (p : α → Bool) : List α → Int → Int
  | [], _ => -1
  | x :: xs, i => bif p x then i else idx p xs (i + 1)
theorem idx_ge {α : Type} (p : α → Bool) : ∀ (xs : List α) (i : Int), 0 ≤ i → decide (idx p xs i ≥ 0) = xs.any p
  | [], i, h => by simp [idx]
  | x :: xs, i, h => by
    simp only [idx, List.any_cons]
    by_cases hp : p x = true
    · simp [hp, h]
    · have hp' : p x = false := by simpa using hp
      simp only [hp', cond_false, Bool.false_or]; exact idx_ge p xs (i + 1) (by omega)
theorem any_not {α : Type} (p : α → Bool) (xs : List α) : (!xs.any fun x => !p x) = xs.all p := by
  induction xs with
  | nil => rfl
  | cons x xs ih => simp only [List.any_cons, List.all_cons, Bool.not_or, Bool.not_not, ih]
theorem wf_i64 {n : Int} (h : (Lit.int .i64 n).wf = true) : -9223372036854775808 ≤ n ∧ n < 9223372036854775808 := by
  simp [Lit.wf, IntKind.min, IntKind.max, IntKind.signed, IntKind.bits] at h; omega
theorem szStr_fit {n : Nat} {l : Int} {k : Int → Int} (hn : n ≤ maxLen) (hl : 0 ≤ l) (hl' : l ≤ 1048576) (h : 0 ≤ szStr n l k) : n ≤ 1048576 ∧ szStr n l k = k (l - n) ∧ 0 ≤ l - n ∧ l - n ≤ 1048576 := by
  have : maxLen = 9223372036854775807 := rfl
  unfold szStr at h ⊢
  have hw : IntKind.i64.wrap (l - n) = l - n := w64 (by omega) (by omega)
  rw [hw] at h ⊢
  split at h
  · omega
  · rename_i hh; rw [if_neg hh]; exact ⟨by omega, rfl, by omega, by omega⟩
theorem szGo_fit {α : Type} {f : α → Int → Int} {W O : α → Prop} (hf : ∀ x l, W x → 0 ≤ l → l ≤ 1048576 → 0 ≤ f x l → O x ∧ f x l ≤ l) : ∀ (xs : List α) (l : Int), (∀ x, x ∈ xs → W x) → 0 ≤ l → l ≤ 1048576 → 0 ≤ szGo f xs l → (∀ x, x ∈ xs → O x) ∧ szGo f xs l ≤ l
  | [], l, _, _, _, _ => ⟨fun x hx => (by cases hx), Int.le_refl _⟩
  | x :: xs, l, hw, hl, hl', h => by
    unfold szGo at h ⊢
    split at h
    · omega
    · rename_i hh
      have h1 := hf x l (hw x (List.mem_cons_self ..)) hl hl' (by omega)
      have h2 := szGo_fit hf xs (f x l) (fun y hy => hw y (List.mem_cons_of_mem _ hy)) (by omega) (by omega) h
      rw [if_neg hh]
      exact ⟨fun y hy => (List.mem_cons.1 hy).elim (fun e => by rw [e]; exact h1.1) (h2.1 y), by omega⟩
theorem szS_fit {α : Type} {f : α → Int → Int} {W O : α → Prop} (hf : ∀ x l, W x → 0 ≤ l → l ≤ 1048576 → 0 ≤ f x l → O x ∧ f x l ≤ l) {xs : List α} {l : Int} (hw : ∀ x, x ∈ xs → W x) (hn : xs.length ≤ maxLen) (hl : 0 ≤ l) (hl' : l ≤ 1048576) (h : 0 ≤ szS f xs l) :
    xs.length ≤ 1048576 ∧ (∀ x, x ∈ xs → O x) ∧ szS f xs l ≤ l := by
  have hlen := szS_len h hn hl hl'
  have : maxLen = 9223372036854775807 := rfl
  unfold szS at h ⊢
  have hw' : IntKind.i64.wrap (l - xs.length) = l - xs.length := w64 (by omega) (by omega)
  rw [hw'] at h ⊢
  split at h
  · omega
  · rename_i hh
    rw [if_neg hh]
    have := szGo_fit hf xs _ hw (by omega) (by omega) h
    exact ⟨hlen, this.1, by omega⟩

/-- A text's bytes lie in a range, and its length in another. -/
def inR (n lo hi : Int) : Bool := decide (lo ≤ n) && decide (n ≤ hi)
def spell (s : ByteArray) (lo hi a z : Int) : Bool := (List.range s.size).all (fun j => inR (byteAt s j) a z) && inR s.size lo hi
theorem spell_bad {s : ByteArray} {lo hi a z : Int} {i : Nat} (h : i < s.size) (hb : inR (byteAt s i) a z = false) : spell s lo hi a z = false := by
  have : (List.range s.size).all (fun j => inR (byteAt s j) a z) = false := by
    rw [List.all_eq_false]; exact ⟨i, List.mem_range.2 h, by rw [hb]; simp⟩
  rw [spell, this, Bool.false_and]
theorem spell_ok {s : ByteArray} {lo hi a z : Int} (h : ∀ i, i < s.size → inR (byteAt s i) a z = true) : spell s lo hi a z = inR s.size lo hi := by
  have : (List.range s.size).all (fun j => inR (byteAt s j) a z) = true := by
    rw [List.all_eq_true]; exact fun i hi => h i (List.mem_range.1 hi)
  rw [spell, this, Bool.true_and]
theorem inR_lo {n lo hi : Int} (h : n < lo) : inR n lo hi = false := by simp [inR]; omega
theorem inR_hi {n lo hi : Int} (h : n > hi) : inR n lo hi = false := by simp [inR]; omega
theorem inR_in {n lo hi : Int} (h : ¬ n < lo) (h' : ¬ n > hi) : inR n lo hi = true := by simp [inR]; omega
theorem Fz.row {H : Heap} {b sz : Nat} {cs : List AV} (h : H.m b = some ⟨sz, [cs]⟩) : Fz H [] (.ptr b 0 0) (.rp cs) :=
  .ptr b 0 0 _ cs h (by simp) (by simp) (Nat.zero_le _) rfl fun p a a' e1 e2 => by
    have : cs[p]? = some a := e1
    rw [this] at e2; cases e2; exact .same a (.inl rfl)
end Go.Abs
