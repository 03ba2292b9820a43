/- Operations on abstract states: that what is shown of each is so (new rows, append). Laws of the model alone. -/
import Derived.Test.YtbgnlnlgjmipfaaA8
namespace Go.Abs
section
variable {P : Program} {K : AV → Heap → Prop} {H : Heap} {ρ : Nat → Bl} {w : World} {E : List AV} {a : Act} {o : Oper}

theorem made_list (z : Array Value) (n : Nat) : (madeCells z (n * z.size)).toList = (List.replicate n z.toList).flatten := by
  induction n with
  | zero => simp [madeCells]
  | succ n ih =>
    rw [List.replicate_succ', List.flatten_append, ← ih]
    simp only [madeCells, Array.toList_map, Array.toList_range, List.flatten_cons, List.flatten_nil, List.append_nil]
    rw [Nat.add_mul, Nat.one_mul, List.range_add, List.map_append, List.map_map]
    congr 1
    apply List.ext_getElem?
    intro i
    simp only [List.getElem?_map]
    by_cases hi : i < z.size
    · simp [Nat.mod_eq_of_lt hi, Function.comp, hi]
    · rw [List.getElem?_eq_none (by simpa using hi), List.getElem?_eq_none (by simpa using hi)]; rfl

theorem replicate_rel {N : Nat} {L : Nat → Prop} (zs : List Value) (n : Nat) : VRl N ρ L w (List.replicate n (zs.map AV.v)).flatten (List.replicate n zs).flatten := by
  induction n with
  | zero => exact VRl.nil
  | succ n ih => rw [List.replicate_succ, List.replicate_succ, List.flatten_cons, List.flatten_cons]; exact (VRl.v zs).append ih

theorem ok_mks {t e : Nat} {n : Operand} {ie : TypeInfo} {z : Value} (ho : o.op = .makeSlice t n n) (hu : P.underlying t = some (.slice e)) (hi : P.info? e = some ie) (hz : ie.zero = some z)
    (hs : ie.size = z.cells.size) (hb : 0 < ie.bytes) (h1 : z.cells.toList.all (·.oneCell') = true)
    (hR : Rel H ρ w) (hE : VRwl H ρ w E a.tmps.toList) (hv : vcOp P (.mks z.cells.toList ie.bytes n) K H E) :
    Out P ((execOp a.eval o).run P w) (Post K H ρ w) := by
  have hx := ev_ok hE n
  simp only [vcOp] at hv
  split at hv
  · rename_i k i hp
    rw [hp] at hx
    have hx := hx.v_inv
    obtain ⟨h0, hby, hv⟩ := hv
    have h63 : i ≤ 281474976710656 := Int.le_trans (by have : (1 : Int) * i ≤ ie.bytes * i := Int.mul_le_mul_of_nonneg_right (by omega) h0; omega) hby
    have hm := run_make (P := P) w t e ie z hu hi hz k k i i h0 (Int.le_refl _) hby (by omega)
    rw [hs] at hm
    have hrun : (execOp a.eval o).run P w = .ok (.value (.slice (some ⟨w.heap.size, 0, none⟩) i.toNat i.toNat)) (w.alloc (.cells (madeCells z.cells (i.toNat * z.cells.size)) e)) := by
      simp [execOp, ho, hx, hm]
    rw [hrun]
    have hml := made_list z.cells i.toNat
    have hcl : z.cells.toList.length = z.cells.size := Array.length_toList
    have hones : Ones (madeCells z.cells (i.toNat * z.cells.size)).toList := by
      rw [hml]
      intro x hxm
      obtain ⟨l, hl, hxl⟩ := List.mem_flatten.1 hxm
      rw [(List.mem_replicate.1 hl).2] at hxl
      exact List.all_eq_true.1 h1 x hxl
    obtain ⟨ρ', e1, e2, e3⟩ := alloc_ok hR (w' := w.alloc (.cells (madeCells z.cells (i.toNat * z.cells.size)) e)) (cur := madeCells z.cells (i.toNat * z.cells.size)) (ty := e) rfl rfl rfl rfl
      ⟨z.cells.toList.length, List.replicate i.toNat (z.cells.toList.map .v)⟩ i.toNat (by rw [size_madeCells, hcl]) (by unfold maxLen; omega)
      (fun r hr => by rw [(List.mem_replicate.1 hr).2]; simp) (by simp) (hones.take _) (by
        simp only [List.length_replicate]
        rw [List.take_of_length_le (by rw [Array.length_toList, size_madeCells, hcl]; omega), hml]
        exact replicate_rel _ _)
    refine ⟨_, _, ρ', hv, e1, ?_, e2⟩
    have := VR.own (N := (H.alloc ⟨z.cells.toList.length, List.replicate i.toNat (z.cells.toList.map .v)⟩).nx) (ρ := ρ') (L := Live (H.alloc ⟨z.cells.toList.length, List.replicate i.toNat (z.cells.toList.map .v)⟩) ρ')
      (w := w.alloc (.cells (madeCells z.cells (i.toNat * z.cells.size)) e)) H.nx i.toNat i.toNat (Nat.lt_succ_self _) (Nat.le_refl _) (by rw [e3]; exact Nat.le_refl _)
    rw [e3] at this
    exact this
  · exact hv.elim

/-- The parts of a literal stand in order, from the first on. -/
def inOrder : Nat → List (Nat × Operand) → Option (List Operand)
  | _, [] => some []
  | k, (j, x) :: rest => if j = k then (inOrder (k + 1) rest).map (x :: ·) else none

theorem fillA_all {sz : Nat} (E : List AV) : ∀ (ps : List (Nat × Operand)) (k : Nat) (xs : List Operand) (A B : List AV), inOrder k ps = some xs → A.length = k * sz → B.length = xs.length * sz →
    (xs.all fun x => storable (ev E x) && (cellsOf (ev E x)).length == sz) = true →
    fillA E (ps.map fun p => (p.1 * sz, sz, p.2)) (A ++ B) = some (A ++ (xs.map fun x => cellsOf (ev E x)).flatten)
  | [], k, xs, A, B, ho, _, hB, _ => by
    simp only [inOrder, Option.some.injEq] at ho
    subst ho
    have : B = [] := List.eq_nil_of_length_eq_zero (by simpa using hB)
    subst this
    simp [fillA]
  | (j, x) :: ps, k, xs, A, B, ho, hA, hB, hall => by
    unfold inOrder at ho
    split at ho
    · rename_i hj
      subst hj
      cases hr : inOrder (j + 1) ps with
      | none => simp [hr] at ho
      | some ys =>
        simp only [hr, Option.map_some, Option.some.injEq] at ho
        subst ho
        simp only [List.all_cons, Bool.and_eq_true, beq_iff_eq] at hall
        obtain ⟨⟨h1, h2⟩, h3⟩ := hall
        simp only [List.length_cons, Nat.add_mul, Nat.one_mul] at hB
        simp only [List.map_cons, fillA]
        rw [if_pos (by simp [h1, h2, hA, hB])]
        have e : splice (A ++ B) (j * sz) (cellsOf (ev E x)) = (A ++ cellsOf (ev E x)) ++ B.drop sz := by
          unfold splice
          rw [← hA, List.take_left, h2, List.drop_length_add_append]
        rw [e, fillA_all E ps (j + 1) ys _ _ hr (by simp [hA, h2, Nat.add_mul]) (by simp [hB]) (by simpa using h3)]
        simp
    · cases ho

theorem ok_lit {t e len : Nat} {parts : Array (Nat × Operand)} {xs : List Operand} {ie : TypeInfo} {z : Value} (ho : o.op = .buildSlice t len parts) (hu : P.underlying t = some (.slice e)) (hi : P.info? e = some ie) (hz : ie.zero = some z)
    (hs : ie.size = z.cells.size) (hpos : 0 < ie.size) (h1 : z.cells.toList.all (·.oneCell') = true) (hord : inOrder 0 parts.toList = some xs) (hlen : xs.length = len) (hsm : len * ie.size ≤ 16777216)
    (hR : Rel H ρ w) (hE : VRwl H ρ w E a.tmps.toList) (hv : vcOp P (.lit ie.size xs) K H E) :
    Out P ((execOp a.eval o).run P w) (Post K H ρ w) := by
  obtain ⟨hall, hv⟩ := hv
  have hcl : z.cells.toList.length = z.cells.size := Array.length_toList
  have hm : ∃ cells : Array Value, Instr.fill (fun i => some (i * ie.size, ie.size)) (madeCells z.cells (len * ie.size)) (parts.toList.map fun p => (p.1, a.eval p.2)) = some cells ∧
      VRwl H ρ w (xs.map fun x => cellsOf (ev E x)).flatten cells.toList ∧ Ones cells.toList := by
    have hfa := fillA_all (sz := ie.size) E parts.toList 0 xs [] (List.replicate (len * ie.size) .any) hord (by simp) (by simp [hlen]) hall
    simp only [List.nil_append] at hfa
    refine fill_ok (fun i => some (i * ie.size, ie.size)) hE parts.toList _ _ _ _ ?_ ?_ ?_ hfa
    · simp
    · refine ⟨by simp [size_madeCells], fun p av x h _ => ?_⟩
      rw [List.getElem?_replicate] at h
      split at h
      · cases h; exact .any _
      · cases h
    · rw [hs, made_list]
      intro x hxm
      obtain ⟨l, hl, hxl⟩ := List.mem_flatten.1 hxm
      rw [(List.mem_replicate.1 hl).2] at hxl
      exact List.all_eq_true.1 h1 x hxl
  obtain ⟨cells, c1, c2, c3⟩ := hm
  have hrows : ∀ r, r ∈ (xs.map fun x => cellsOf (ev E x)) → r.length = ie.size := fun r hr => by
    obtain ⟨x, hx, rfl⟩ := List.mem_map.1 hr
    have := List.all_eq_true.1 hall x hx
    simp only [Bool.and_eq_true, beq_iff_eq] at this
    exact this.2
  have hfl := flatten_len _ hrows
  have hcs : cells.size = len * ie.size := by rw [← Array.length_toList, c2.1, hfl, List.length_map, hlen]
  have hrun : (execOp a.eval o).run P w = .ok (.value (.slice (some ⟨w.heap.size, 0, none⟩) len len)) (w.alloc (.cells cells e)) := by
    by_cases h0 : len * ie.size = 0
    · have hl0 : len = 0 := by
        rcases Nat.mul_eq_zero.1 h0 with h | h
        · exact h
        · omega
      subst hl0
      have hx0 : xs = [] := List.eq_nil_of_length_eq_zero hlen
      subst hx0
      have hp0 : parts.toList = [] := by
        cases hp : parts.toList with
        | nil => rfl
        | cons p rest =>
          rw [hp] at hord
          simp only [inOrder] at hord
          split at hord
          · cases hr : inOrder 1 rest <;> simp [hr] at hord
          · cases hord
      have hp0' : parts = #[] := by rw [← Array.toArray_toList (xs := parts), hp0]
      have hc0 : cells = #[] := Array.eq_empty_of_size_eq_zero (by simpa using hcs)
      subst hp0'
      subst hc0
      simp [execOp, ho, Instr.buildSlice, run_underlying hu, sizeOf, typeInfo, hi, Instr.fill, newRow, show Array.range 0 = #[] from rfl]
    · have := run_buildSlice (P := P) w t e len (parts.map fun p => (p.1, a.eval p.2)) cells ie z hu hi hz (by omega) h0 (by simpa [madeCells] using c1)
      simp only [execOp, ho, Sem.run_bind, this, Result.andThen_ok, Sem.run_pure]
  rw [hrun]
  obtain ⟨ρ', e1, e2, e3⟩ := alloc_ok hR (w' := w.alloc (.cells cells e)) (cur := cells) (ty := e) rfl rfl rfl rfl
    ⟨ie.size, xs.map fun x => cellsOf (ev E x)⟩ len hcs (by unfold maxLen; have : len * 1 ≤ len * ie.size := Nat.mul_le_mul_left _ hpos; omega) hrows (by simp [hlen]) (c3.take _) (by
      rw [List.take_of_length_le (by rw [Array.length_toList, hcs, List.length_map, hlen]; exact Nat.le_refl _)]
      exact c2)
  refine ⟨_, _, ρ', hv, e1, ?_, e2⟩
  have := VR.own (N := (H.alloc ⟨ie.size, xs.map fun x => cellsOf (ev E x)⟩).nx) (ρ := ρ') (L := Live (H.alloc ⟨ie.size, xs.map fun x => cellsOf (ev E x)⟩) ρ')
    (w := w.alloc (.cells cells e)) H.nx xs.length len (Nat.lt_succ_self _) (by omega) (by rw [e3]; exact Nat.le_refl _)
  rw [e3, hlen] at this
  rw [hlen]
  exact this
end
end Go.Abs
