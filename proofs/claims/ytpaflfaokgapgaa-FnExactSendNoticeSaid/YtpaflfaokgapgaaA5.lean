/- Lists of abstract and of exact values side by side; rows of elements laid one behind the other. Plain laws on lists. -/
import Derived.Test.YtpaflfaokgapgaaA4
namespace Go.Abs
section
variable {N : Nat} {ρ : Nat → Bl} {L : Nat → Prop} {w : World}

theorem VRl.nil : VRl N ρ L w [] [] := ⟨rfl, fun p av x h => by simp at h⟩
theorem VRl.one {r : AV} {x : Value} (h : VR N ρ L w r x) : VRl N ρ L w [r] [x] := by
  refine ⟨rfl, fun p av y h1 h2 => ?_⟩
  cases p with
  | zero => simp at h1 h2; subst h1; subst h2; exact h
  | succ p => simp at h1
theorem VRl.append {as bs : List AV} {xs ys : List Value} (h : VRl N ρ L w as xs) (k : VRl N ρ L w bs ys) : VRl N ρ L w (as ++ bs) (xs ++ ys) := by
  refine ⟨by simp [h.1, k.1], fun p av x h1 h2 => ?_⟩
  rw [List.getElem?_append] at h1 h2
  rw [h.1] at h2
  split at h1
  · rename_i hp; rw [if_pos hp] at h2; exact h.2 p av x h1 h2
  · rename_i hp; rw [if_neg hp] at h2; exact k.2 _ av x h1 h2
theorem VRl.take {as : List AV} {xs : List Value} (h : VRl N ρ L w as xs) (n : Nat) : VRl N ρ L w (as.take n) (xs.take n) := by
  refine ⟨by simp [h.1], fun p av x h1 h2 => ?_⟩
  rw [List.getElem?_take] at h1 h2
  split at h1
  · rename_i hp; rw [if_pos hp] at h2; exact h.2 p av x h1 h2
  · cases h1
theorem VRl.drop {as : List AV} {xs : List Value} (h : VRl N ρ L w as xs) (n : Nat) : VRl N ρ L w (as.drop n) (xs.drop n) := by
  refine ⟨by simp [h.1], fun p av x h1 h2 => ?_⟩
  rw [List.getElem?_drop] at h1 h2
  exact h.2 _ av x h1 h2
theorem VRl.get {as : List AV} {xs : List Value} (h : VRl N ρ L w as xs) {p : Nat} (hp : p < as.length) : ∃ x, xs[p]? = some x ∧ VR N ρ L w (as.getD p .any) x := by
  have hp' : p < xs.length := by rw [h.1]; exact hp
  refine ⟨xs[p], List.getElem?_eq_getElem hp', h.2 p _ _ ?_ (List.getElem?_eq_getElem hp')⟩
  simp [List.getD, List.getElem?_eq_getElem hp]
theorem VRl.v (zs : List Value) : VRl N ρ L w (zs.map .v) zs := by
  refine ⟨by simp, fun p av x h1 h2 => ?_⟩
  rw [List.getElem?_map, h2] at h1
  simp at h1; subst h1; exact .v _
theorem VRl.splice {as ys : List AV} {xs vs : List Value} (h : VRl N ρ L w as xs) (k : VRl N ρ L w ys vs) (off : Nat) :
    VRl N ρ L w (splice as off ys) (xs.take off ++ vs ++ xs.drop (off + vs.length)) := by
  unfold Abs.splice; rw [k.1]; exact ((h.take off).append k).append (h.drop _)

theorem Ones.append {xs ys : List Value} (h : Ones xs) (k : Ones ys) : Ones (xs ++ ys) := fun x hx => by
  rcases List.mem_append.1 hx with h' | h'
  · exact h x h'
  · exact k x h'
theorem Ones.take {xs : List Value} (h : Ones xs) (n : Nat) : Ones (xs.take n) := fun x hx => h x (List.mem_of_mem_take hx)
theorem Ones.drop {xs : List Value} (h : Ones xs) (n : Nat) : Ones (xs.drop n) := fun x hx => h x (List.mem_of_mem_drop hx)

/-- What a value that can be stored has in its cells. -/
theorem cells_ok {r : AV} {x : Value} (h : VR N ρ L w r x) (hs : storable r = true) : VRl N ρ L w (cellsOf r) x.cells.toList ∧ Ones x.cells.toList := by
  have one : ∀ {r : AV} {x : Value}, VR N ρ L w r x → x.oneCell' = true → VRl N ρ L w [r] x.cells.toList ∧ Ones x.cells.toList := by
    intro r x h h1
    have hc : x.cells.toList = [x] := by cases x <;> first | rfl | cases h1
    rw [hc]
    exact ⟨VRl.one h, fun y hy => by simp at hy; subst hy; exact h1⟩
  cases h with
  | v x => exact one (.v x) hs
  | any x => cases hs
  | own b n c h1 h2 h3 => exact one (.own b n c h1 h2 h3) rfl
  | ptr b i j h1 => exact one (.ptr b i j h1) rfl
  | ro sz xs a c vs h1 h2 h3 h4 h5 => exact one (.ro sz xs a c vs h1 h2 h3 h4 h5) rfl
  | rp cs ad vs h1 h2 h3 => exact one (.rp cs ad vs h1 h2 h3) rfl
  | agg cs vs h1 h2 h3 => exact ⟨⟨h1, h3⟩, h2⟩
  | tup cs vs h1 h2 => cases hs
  | fn f cs vs h1 h2 => exact one (.fn f cs vs h1 h2) rfl
end

theorem flatten_len {α : Type} {sz : Nat} : ∀ (xs : List (List α)), (∀ r, r ∈ xs → r.length = sz) → xs.flatten.length = xs.length * sz
  | [], _ => by simp
  | r :: xs, h => by
    have := flatten_len xs (fun r hr => h r (by simp [hr]))
    simp only [List.flatten_cons, List.length_append, this, h r (by simp), List.length_cons, Nat.add_mul]
    omega
theorem flatten_split {α : Type} {sz : Nat} : ∀ (xs : List (List α)) (i : Nat), (∀ r, r ∈ xs → r.length = sz) → i < xs.length →
    xs.flatten = (xs.take i).flatten ++ xs.getD i [] ++ (xs.drop (i + 1)).flatten ∧ (xs.take i).flatten.length = i * sz ∧ (xs.getD i []).length = sz
  | [], i, _, hi => by simp at hi
  | r :: xs, 0, h, _ => by simp [h r]
  | r :: xs, i + 1, h, hi => by
    obtain ⟨h1, h2, h3⟩ := flatten_split xs i (fun r hr => h r (by simp [hr])) (by simpa using hi)
    refine ⟨?_, ?_, ?_⟩
    · simp only [List.flatten_cons, List.take_succ_cons, List.getD_cons_succ, List.drop_succ_cons, List.append_assoc]
      rw [h1]; simp
    · simp only [List.take_succ_cons, List.flatten_cons, List.length_append, h r (by simp), h2, Nat.add_mul]; omega
    · simpa using h3
theorem flatten_take {α : Type} {sz : Nat} : ∀ (xs : List (List α)) (m : Nat), (∀ r, r ∈ xs → r.length = sz) → (xs.take m).flatten = xs.flatten.take (m * sz)
  | [], m, _ => by simp
  | _ :: _, 0, _ => by simp
  | y :: ys, m + 1, h => by
    have hy := h y (by simp)
    have e : (m + 1) * sz = y.length + m * sz := by rw [hy, Nat.add_mul]; omega
    rw [List.take_succ_cons, List.flatten_cons, List.flatten_cons, flatten_take ys m (fun r hr => h r (by simp [hr])), e, List.take_length_add_append]
theorem flatten_drop {α : Type} {sz : Nat} : ∀ (xs : List (List α)) (m : Nat), (∀ r, r ∈ xs → r.length = sz) → (xs.drop m).flatten = xs.flatten.drop (m * sz)
  | [], m, _ => by simp
  | _ :: _, 0, _ => by simp
  | y :: ys, m + 1, h => by
    have hy := h y (by simp)
    have e : (m + 1) * sz = y.length + m * sz := by rw [hy, Nat.add_mul]; omega
    rw [List.drop_succ_cons, List.flatten_cons, flatten_drop ys m (fun r hr => h r (by simp [hr])), e, List.drop_length_add_append]
theorem flatten_part {α : Type} {sz : Nat} (xs : List (List α)) (i j n : Nat) (h : ∀ r, r ∈ xs → r.length = sz) (hi : i < xs.length) (hj : j + n ≤ sz) :
    ((xs.getD i []).drop j).take n = (xs.flatten.drop (i * sz + j)).take n := by
  obtain ⟨h1, h2, h3⟩ := flatten_split xs i h hi
  generalize (xs.take i).flatten = A at *
  generalize xs.getD i [] = R at *
  generalize (xs.drop (i + 1)).flatten = C at *
  rw [h1, ← h2, List.append_assoc A R C]
  rw [List.drop_append, List.drop_eq_nil_of_le (show A.length ≤ A.length + j by omega), show A.length + j - A.length = j from by omega, List.nil_append]
  rw [List.drop_append_of_le_length (by omega), List.take_append_of_le_length (by simp; omega)]
theorem flatten_set {sz : Nat} (xs : List (List AV)) (i j : Nat) (ys : List AV) (h : ∀ r, r ∈ xs → r.length = sz) (hi : i < xs.length) (hj : j + ys.length ≤ sz) :
    (xs.set i (splice (xs.getD i []) j ys)).flatten = splice xs.flatten (i * sz + j) ys := by
  obtain ⟨h1, h2, h3⟩ := flatten_split xs i h hi
  have e : (xs.set i (splice (xs.getD i []) j ys)).flatten = (xs.take i).flatten ++ splice (xs.getD i []) j ys ++ (xs.drop (i + 1)).flatten := by
    rw [List.set_eq_take_append_cons_drop, if_pos hi]; simp
  rw [e]
  generalize (xs.take i).flatten = A at *
  generalize xs.getD i [] = R at *
  generalize (xs.drop (i + 1)).flatten = C at *
  rw [h1]
  unfold splice
  rw [← h2, List.append_assoc A R C]
  rw [List.take_append, List.take_of_length_le (show A.length ≤ A.length + j by omega), show A.length + j - A.length = j from by omega]
  rw [List.drop_append, List.drop_eq_nil_of_le (show A.length ≤ A.length + j + ys.length by omega), show A.length + j + ys.length - A.length = j + ys.length from by omega]
  rw [List.take_append_of_le_length (by omega), List.drop_append_of_le_length (by omega)]
  simp [List.append_assoc]
end Go.Abs
