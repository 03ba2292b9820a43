/- Functions that write into what they are handed, and functions that give a new slice. Laws of the model alone. -/
import Derived.Test.YtbgnlnlgjmipfaaA21
set_option linter.unusedVariables false
namespace Go.Abs
theorem add_one (H : Heap) (x : Blk) (h : ∀ b y, H.m b = some y → b < H.nx) : H.add [x] = H.alloc x := by
  cases H with | mk n m =>
  simp only [Heap.add, Heap.alloc, List.length_cons, List.length_nil, Nat.zero_add, Heap.mk.injEq, true_and]
  funext i
  by_cases h1 : i < n
  · rw [if_pos h1, if_neg (by omega)]
  · rw [if_neg h1]
    by_cases h2 : i = n
    · subst h2; simp
    · rw [if_neg h2]
      have h3 : [x][i - n]? = none := by rw [List.getElem?_eq_none_iff]; simp; omega
      rw [h3]
      cases hm : m i with
      | none => rfl
      | some y => exact absurd (h i y hm) h1
/-- A contract that gives one new block, where there are blocks. -/
theorem Runs.lift1 {P : Program} {g : Nat} {as as' : List AV} {H : Heap} {r : AV} {x : Blk} (h : Runs P g as' (emp H.nx) fun r' H' => r' = r ∧ H' = (emp H.nx).add [x]) (hf : Fzl H [] as as')
    (hr : NoRo r) (hx : ∀ l, l ∈ x.el → ∀ a, a ∈ l → NoRo a) : Runs P g as H fun r' H' => r' = r ∧ H' = H.alloc x := by
  refine Runs.of fun ρ w vs hR hv => ?_
  have := Runs.lift h hf hr (fun y hy => by rw [List.mem_singleton.1 hy]; exact hx)
  rw [add_one H x fun b y hb => hR.lt b y hb] at this
  exact this.use hR hv
/-- Exact values alone. -/
def Flat (x : Blk) : Prop := ∀ l, l ∈ x.el → ∀ a, a ∈ l → ∃ v, a = AV.v v
/-- A function that writes into a block of ours. -/
theorem Runs.mut {P : Program} {g : Nat} {as : List AV} {H : Heap} {b : Nat} {x y : Blk} {u : Value} (hb : H.m b = some x) (hy : Flat y)
    (h : ∀ N, b < N → Runs P g as (hl N [(b, some x)]) fun r' H' => r' = .v u ∧ H'.m b = some y) : Runs P g as H fun r' H' => r' = .v u ∧ H' = H.upd b y := by
  refine Runs.of fun ρ w vs hR hv => ?_
  have hbl := hR.lt b x hb
  have hd : Dr (hl H.nx [(b, some x)]) H := by rw [dr_one]; exact ⟨rfl, hb⟩
  refine ((h H.nx hbl).use (hd.rel hR) (hd.vrl hv)).mono ?_
  rintro v w' ⟨r', H', ρ', ⟨rfl, hy'⟩, hR', hr', hN⟩
  have hold : ∀ c z, H.m c = some z → ρ' c = ρ c := fun c z hc => hN.rho c (hR.lt c z hc)
  have hlv : ∀ k, Live (H.upd b y) ρ' k → Live H ρ k := by
    rintro k ⟨c, z, hc, hk⟩
    rw [Heap.upd_m] at hc
    split at hc
    · rename_i e; subst e; exact ⟨c, x, hb, by rw [← hold c x hb]; exact hk⟩
    · exact ⟨c, z, hc, by rw [← hold c z hc]; exact hk⟩
  have hnx : Nx H ρ w (H.upd b y) ρ' w' := ⟨Nat.le_refl _, fun c hc => hN.rho c hc, hN.os, hN.tape, hN.output, hN.size, fun k hk hl => hN.heap k hk (fun h' => hl (hd.live h')), fun k hk => .inl (hlv k hk)⟩
  have hown : ∀ c z, (H.upd b y).m c = some z → ∃ z', H.m c = some z' := fun c z hc => by
    rw [Heap.upd_m] at hc
    split at hc
    · rename_i e; subst e; exact ⟨x, hb⟩
    · exact ⟨z, hc⟩
  refine ⟨.v u, H.upd b y, ρ', ⟨rfl, rfl⟩, ⟨?_, ?_, ?_⟩, ?_, hnx⟩
  · intro c z hc
    obtain ⟨z', h'⟩ := hown c z hc
    exact hR.lt c z' h'
  · intro c z hc
    rw [Heap.upd_m] at hc
    split at hc
    · rename_i e; subst e; cases hc
      obtain ⟨cur, ty, hk⟩ := hR'.blk c y hy'
      refine ⟨cur, ty, hk.at_, hk.sz, hk.size, hk.cap, hk.rows, hk.len, hk.ones, hk.rel.1, fun p a u e1 e2 => ?_⟩
      obtain ⟨l, hl, ha⟩ := List.mem_flatten.1 (List.mem_of_getElem? e1)
      obtain ⟨q, rfl⟩ := hy l hl a ha
      have := (hk.rel.2 p _ u e1 e2).v_inv
      rw [this]; exact .v q
    · rename_i hne
      obtain ⟨cur, ty, hk⟩ := hR.blk c z hc
      have e := hold c z hc
      have hlt := (Array.getElem?_eq_some_iff.1 hk.at_).1
      refine ⟨cur, ty, ?_, by rw [e]; exact hk.sz, by rw [e]; exact hk.size, by rw [e]; exact hk.cap, hk.rows, by rw [e]; exact hk.len, hk.ones, hnx.vrl hk.rel⟩
      rw [e, hN.heap _ hlt]
      · exact hk.at_
      · rintro ⟨d, q, hq, hkq⟩
        have hq' : (if d = b then some x else none) = some q := hq
        split at hq'
        · rename_i e'; subst e'; cases hq'
          exact hne (hR.inj c d z x hc hb hkq.symm)
        · cases hq'
  · intro c c' z z' hc hc' he
    obtain ⟨y1, h1⟩ := hown c z hc
    obtain ⟨y2, h2⟩ := hown c' z' hc'
    exact hR.inj c c' y1 y2 h1 h2 (by rw [← hold c y1 h1, ← hold c' y2 h2]; exact he)
  · rw [hr'.v_inv]; exact .v u
/-- What a function gives that gives a new slice and no code, or nothing and a code. -/
def Got (sz : Nat) (rows : List (List AV)) (c : Int) (r : AV) (H : Heap) : Prop :=
  (c = 0 ∧ ∃ b, r = .tup [.own b rows.length, .v (.int .i64 0)] ∧ H.m b = some ⟨sz, rows⟩) ∨ (c ≠ 0 ∧ rows = [] ∧ r = .tup [.v (.slice none 0 0), .v (.int .i64 c)])
theorem Got.ro {P : Program} {f : Nat} {as : List AV} {N sz : Nat} {rows : List (List AV)} {c : Int} (h : Runs P f as (emp N) (Got sz rows c)) (hr : ∀ r, r ∈ rows → ∀ a, a ∈ r → NoRef a) :
    Runs P f as (emp N) fun r H' => r = .tup [.ro sz rows, .v (.int .i64 c)] ∧ H' = emp N :=
  Runs.fin0 h (fun r H' k => by
    rcases k with ⟨rfl, b, rfl, hb⟩ | ⟨_, rfl, rfl⟩
    · exact Fz.tupl (.cons (Fz.all hb rfl) (.cons (.same _ (.inl rfl)) .nil))
    · exact Fz.tupl (.cons (.nil _) (.cons (.same _ (.inl rfl)) .nil))) (.tup _ (norefs_cons (.ro _ _ hr) (norefs_cons (.v _) norefs_nil)))
theorem Got.own {P : Program} {f : Nat} {as : List AV} {N sz : Nat} {rows : List (List AV)} {c : Int} (h : Runs P f as (emp N) (Got sz rows c)) (hc : c = 0) (hr : ∀ r, r ∈ rows → ∀ a, a ∈ r → NoRef a) :
    Runs P f as (emp N) fun r H' => r = .tup [.own N rows.length, .v (.int .i64 0)] ∧ H' = (emp N).add [⟨sz, rows⟩] := by
  refine Runs.fin h fun r H' k => ?_
  rcases k with ⟨_, b, rfl, hb⟩ | ⟨hc', _⟩
  · refine ⟨[b], rfl, by simp, .tup _ _ rfl fun p a a' h1 h2 => ?_, fun i d y h1 h2 => ?_⟩
    · match p with
      | 0 => cases h1; cases h2; exact .own 0 b _ rfl
      | 1 => cases h1; cases h2; exact .fz _ _ (.same _ (.inr (.v _))) (.v _)
      | p + 2 => simp at h1
    · cases i with
      | zero => cases h1; cases h2; exact ⟨⟨sz, rows⟩, hb, BlkRn.same hr⟩
      | succ i => simp at h1
  · exact absurd hc hc'
theorem Got.no {P : Program} {f : Nat} {as as' : List AV} {H : Heap} {sz : Nat} {rows : List (List AV)} {c : Int} (h : Runs P f as' (emp H.nx) (Got sz rows c)) (hc : c ≠ 0) (hf : Fzl H [] as as') :
    Runs P f as H fun r H' => r = .tup [.v (.slice none 0 0), .v (.int .i64 c)] ∧ H' = H :=
  Runs.pure (Runs.fin0 h (fun r H' k => by
    rcases k with ⟨h', _⟩ | ⟨_, _, rfl⟩
    · exact absurd h' hc
    · exact .same _ (.inl rfl)) (.tup _ (norefs_cons (.v _) (norefs_cons (.v _) norefs_nil)))) hf (.tup _ (noros_cons (.v _) (noros_cons (.v _) noros_nil)))
/-- What a function gives that gives a new slice. -/
def Got1 (sz : Nat) (rows : List (List AV)) (r : AV) (H : Heap) : Prop := ∃ b, r = .own b rows.length ∧ H.m b = some ⟨sz, rows⟩
theorem Got1.ro {P : Program} {f : Nat} {as : List AV} {N sz : Nat} {rows : List (List AV)} (h : Runs P f as (emp N) (Got1 sz rows)) (hr : ∀ r, r ∈ rows → ∀ a, a ∈ r → NoRef a) :
    Runs P f as (emp N) fun r H' => r = .ro sz rows ∧ H' = emp N :=
  Runs.fin0 h (fun r H' k => by obtain ⟨b, rfl, hb⟩ := k; exact Fz.all hb rfl) (.ro _ _ hr)
theorem Got1.own {P : Program} {f : Nat} {as : List AV} {N sz : Nat} {rows : List (List AV)} (h : Runs P f as (emp N) (Got1 sz rows)) (hr : ∀ r, r ∈ rows → ∀ a, a ∈ r → NoRef a) :
    Runs P f as (emp N) fun r H' => r = .own N rows.length ∧ H' = (emp N).add [⟨sz, rows⟩] :=
  Runs.fin1 h (fun r H' k => k) hr
/-- A new slice where there are blocks. -/
theorem Got1.at {P : Program} {f : Nat} {as as' : List AV} {H : Heap} {sz : Nat} {rows : List (List AV)} (h : Runs P f as' (emp H.nx) (Got1 sz rows)) (hf : Fzl H [] as as') (hr : ∀ r, r ∈ rows → ∀ a, a ∈ r → NoRef a) (ho : ∀ r, r ∈ rows → ∀ a, a ∈ r → NoRo a) :
    Runs P f as H fun r H' => r = .own H.nx rows.length ∧ H' = H.alloc ⟨sz, rows⟩ := Runs.lift1 (Got1.own h hr) hf (.own _ _) ho
theorem Got.at {P : Program} {f : Nat} {as as' : List AV} {H : Heap} {sz : Nat} {rows : List (List AV)} {c : Int} (h : Runs P f as' (emp H.nx) (Got sz rows c)) (hc : c = 0) (hf : Fzl H [] as as') (hr : ∀ r, r ∈ rows → ∀ a, a ∈ r → NoRef a) (ho : ∀ r, r ∈ rows → ∀ a, a ∈ r → NoRo a) :
    Runs P f as H fun r H' => r = .tup [.own H.nx rows.length, .v (.int .i64 0)] ∧ H' = H.alloc ⟨sz, rows⟩ := Runs.lift1 (Got.own h hc hr) hf (.tup _ (noros_cons (.own _ _) (noros_cons (.v _) noros_nil))) ho
/-- Rows that are written one after the other, over what stood there. -/
def mixR (g : Nat → List AV) (rows : List (List AV)) (i : Nat) : List (List AV) := (List.range i).map g ++ rows.drop i
theorem mixR_zero (g : Nat → List AV) (rows : List (List AV)) : mixR g rows 0 = rows := rfl
theorem mixR_len (g : Nat → List AV) (rows : List (List AV)) {i : Nat} (h : i ≤ rows.length) : (mixR g rows i).length = rows.length := by simp [mixR]; omega
theorem mixR_at (g : Nat → List AV) (rows : List (List AV)) (i : Nat) : (mixR g rows i).getD i [] = rows.getD i [] := by
  simp only [mixR, List.getD_eq_getElem?_getD]
  rw [List.getElem?_append_right (by simp)]
  simp
theorem mixR_set (g : Nat → List AV) (rows : List (List AV)) {i : Nat} (h : i < rows.length) : (mixR g rows i).set i (g i) = mixR g rows (i + 1) := by
  simp only [mixR]
  rw [List.set_append_right _ _ (by simp)]
  have e : (List.drop i rows).set 0 (g i) = g i :: List.drop (i + 1) rows := by rw [List.drop_eq_getElem_cons h]; rfl
  simp [List.range_succ, e]
theorem mixR_end (g : Nat → List AV) (rows : List (List AV)) : mixR g rows rows.length = (List.range rows.length).map g := by simp [mixR]
theorem set_set (l : List (List AV)) (i : Nat) (a b : List AV) : (l.set i a).set i b = l.set i b := by simp
theorem len_set (l : List (List AV)) (i : Nat) (a : List AV) : (l.set i a).length = l.length := by simp
theorem getD_set (l : List (List AV)) {i : Nat} (a : List AV) (h : i < l.length) : (l.set i a).getD i [] = a := by simp [List.getD_eq_getElem?_getD, h]
theorem len_range (n : Nat) : (List.range n).length = n := List.length_range
theorem range_at {n i : Nat} (g : Nat → List AV) (h : i < n) : ((List.range n).map g).getD i [] = g i := by simp [List.getD_eq_getElem?_getD, h]
theorem flat_range {sz n : Nat} {g : Nat → List AV} (h : ∀ i, ∀ a, a ∈ g i → ∃ v, a = AV.v v) : Flat ⟨sz, (List.range n).map g⟩ := fun l hl => by
  obtain ⟨i, _, rfl⟩ := List.mem_map.1 hl; exact h i
/-- The digits of a number, ahead of a text. -/
def digs (k : Nat) (out : ByteArray) : ByteArray := if h : k = 0 then out else digs (k / 10) (strOfNums [((48 + k % 10 : Nat) : Int)] ++ out)
termination_by k
decreasing_by omega
/-- The text of a number that a mark is. -/
def mtx (k : Nat) : ByteArray := ⟨#[109]⟩ ++ digs k ⟨#[]⟩
theorem nlt0 (n : Nat) : decide ((n : Int) < 0) = false := by simp
theorem nlt0' (n : Nat) : ((n : Int) < 0) = False := by simp
theorem str_one (n : Int) : (strOfNums [n]).size = 1 := rfl
theorem int_of (r : List AV) (h : RowOk [.int .i64] r) : ∃ x, r = int1 x ∧ (Lit.int .i64 x).wf = true := by
  obtain ⟨a, l, rfl, h1, h2⟩ := row_cons h
  obtain ⟨n, rfl, w⟩ := leaf_int h1
  obtain rfl := row_nil h2
  exact ⟨n, rfl, w⟩
theorem w_nat {n : Nat} (h : n ≤ maxLen) : IntKind.i64.wrap (n : Int) = (n : Int) := by
  have : maxLen = 9223372036854775807 := rfl
  rw [w64 (by omega) (by omega)]
/-- A number, a text: a row of one cell. -/
def tRow (s : ByteArray) : List AV := [.v (.string s)]
theorem int1_no (n : Int) : ∀ a, a ∈ int1 n → NoRo a := noros_cons (.v _) noros_nil
theorem tRow_nr (n : ByteArray) : ∀ a, a ∈ tRow n → NoRef a := norefs_cons (.v _) norefs_nil
theorem tRow_no (n : ByteArray) : ∀ a, a ∈ tRow n → NoRo a := noros_cons (.v _) noros_nil
theorem txt_of (r : List AV) (h : RowOk [.str] r) : ∃ x, r = tRow x ∧ x.size ≤ maxLen := by
  obtain ⟨a, l, rfl, h1, h2⟩ := row_cons h
  obtain ⟨n, rfl, w⟩ := leaf_str h1
  obtain rfl := row_nil h2
  exact ⟨n, rfl, w⟩
theorem noros_map {α : Type} {f : α → List AV} (h : ∀ x, ∀ a, a ∈ f x → NoRo a) (xs : List α) : ∀ r, r ∈ xs.map f → ∀ a, a ∈ r → NoRo a := fun r hr => by
  obtain ⟨x, _, rfl⟩ := List.mem_map.1 hr; exact h x
end Go.Abs
