/- Operations on abstract states: that what is shown of each is so (literals, make, append, cuts, calls). Laws of the model alone. -/
import Derived.Test.YtbgnlnlgjmipfaaA7
namespace Go.Abs
section
variable {P : Program} {K : AV → Heap → Prop} {H : Heap} {ρ : Nat → Bl} {w : World} {E : List AV} {a : Act} {o : Oper}

theorem foldl_put (off : Nat) : ∀ (ys : List Value) (k : Nat) (cells : Array Value), off + k + ys.length ≤ cells.size →
    ((ys.zipIdx k).foldl (fun cs p => cs.setIfInBounds (off + p.2) p.1) cells).toList = cells.toList.take (off + k) ++ ys ++ cells.toList.drop (off + k + ys.length)
  | [], k, cells, _ => by simp
  | y :: ys, k, cells, h => by
    simp only [List.length_cons] at h
    rw [List.zipIdx_cons, List.foldl_cons, foldl_put off ys (k + 1) _ (by simpa using (by omega : off + (k + 1) + ys.length ≤ cells.size))]
    simp only [Array.toList_setIfInBounds, List.length_cons]
    rw [List.set_eq_take_append_cons_drop, if_pos (by simpa using (by omega : off + k < cells.size))]
    have hl : (cells.toList.take (off + k)).length = off + k := by rw [List.length_take, Array.length_toList]; omega
    have hd : cells.toList.drop (off + k + (ys.length + 1)) = (cells.toList.drop (off + k + 1)).drop ys.length := by rw [List.drop_drop]; congr 1; omega
    rw [hd]
    generalize cells.toList.take (off + k) = A at *
    generalize cells.toList.drop (off + k + 1) = B at *
    rw [show off + (k + 1) = A.length + 1 from by omega, show A.length + 1 + ys.length = A.length + (ys.length + 1) from by omega]
    simp only [List.take_append, List.drop_append, List.append_assoc, show A.length + 1 - A.length = 1 from by omega, show A.length + (ys.length + 1) - A.length = ys.length + 1 from by omega]
    rw [List.take_of_length_le (by omega), List.drop_eq_nil_of_le (by omega)]
    simp

theorem fill_step (place : Nat → Option (Nat × Nat)) (cells : Array Value) (k : Nat) (v : Value) (rest : List (Nat × Value)) (off n : Nat) (hp : place k = some (off, n)) (hv : v.cells.toList.length = n) (hf : off + n ≤ cells.size) :
    ∃ cells' : Array Value, cells'.toList = cells.toList.take off ++ v.cells.toList ++ cells.toList.drop (off + v.cells.toList.length) ∧ Instr.fill place cells ((k, v) :: rest) = Instr.fill place cells' rest := by
  have hn : v.cells.size = n := by rw [← Array.length_toList]; exact hv
  refine ⟨v.cells.zipIdx.foldl (fun cs p => cs.setIfInBounds (off + p.2) p.1) cells, ?_, ?_⟩
  · have := foldl_put off v.cells.toList 0 cells (by rw [hv]; omega)
    rw [← Array.foldl_toList, Array.toList_zipIdx]
    simpa using this
  · simp only [Instr.fill, hp]
    rw [if_neg (by simp [hn]; omega)]

theorem fill_ok (place : Nat → Option (Nat × Nat)) (hE : VRwl H ρ w E a.tmps.toList) : ∀ (ps : List (Nat × Operand)) (qs : List (Nat × Nat × Operand)) (cs cs' : List AV) (cells : Array Value),
    ps.map (fun p => (place p.1).map fun q => (q.1, q.2, p.2)) = qs.map some → VRwl H ρ w cs cells.toList → Ones cells.toList → fillA E qs cs = some cs' →
    ∃ cells' : Array Value, Instr.fill place cells (ps.map fun p => (p.1, a.eval p.2)) = some cells' ∧ VRwl H ρ w cs' cells'.toList ∧ Ones cells'.toList
  | [], [], cs, cs', cells, _, hv, h1, hf => by
    simp only [fillA, Option.some.injEq] at hf
    subst hf
    exact ⟨cells, rfl, hv, h1⟩
  | [], _ :: _, _, _, _, hq, _, _, _ => by simp at hq
  | _ :: _, [], _, _, _, hq, _, _, _ => by simp at hq
  | (k, x) :: ps, (off, n, y) :: qs, cs, cs', cells, hq, hv, h1, hf => by
    simp only [List.map_cons, List.cons.injEq] at hq
    obtain ⟨hq1, hq2⟩ := hq
    cases hp : place k with
    | none => simp [hp] at hq1
    | some q =>
      simp only [hp, Option.map_some, Option.some.injEq, Prod.mk.injEq] at hq1
      obtain ⟨rfl, rfl, rfl⟩ := hq1
      unfold fillA at hf
      split at hf
      · rename_i hc
        simp only [Bool.and_eq_true, beq_iff_eq, decide_eq_true_eq] at hc
        obtain ⟨⟨c1, c2⟩, c3⟩ := hc
        obtain ⟨d1, d2⟩ := cells_ok (ev_ok hE x) c1
        have hl : (a.eval x).cells.toList.length = q.2 := by rw [d1.1, c2]
        have hsz : cells.size = cs.length := by rw [← Array.length_toList, hv.1]
        obtain ⟨cells', e1, e2⟩ := fill_step place cells k (a.eval x) (ps.map fun p => (p.1, a.eval p.2)) q.1 q.2 (by rw [hp]) hl (by omega)
        obtain ⟨cells'', f1, f2, f3⟩ := fill_ok place hE ps qs _ cs' cells' hq2 (by rw [e1]; exact hv.splice d1 q.1) (by rw [e1]; exact ((h1.take _).append d2).append (h1.drop _)) hf
        exact ⟨cells'', by rw [← f1]; exact e2, f2, f3⟩
      · cases hf

/-- A struct's parts, their places laid in. -/
def partsOf (P : Program) (t : Nat) (ps : List (Nat × Operand)) : Option (List Value × List (Nat × Nat × Operand)) :=
  match P.info? t, P.underlying t with
  | some it, some (.struct fields) =>
    match it.zero, fields.toList.mapM (fun f => (P.info? f.type).map fun i => (f.offset, i.size)) with
    | some z, some places =>
      match ps.mapM (fun p => (places.toArray[p.1]?).map fun q => (q.1, q.2, p.2)) with
      | some qs => if z.cells.toList.all (·.oneCell') = true then some (z.cells.toList, qs) else none
      | none => none
    | _, _ => none
  | _, _ => none

theorem mapM_some {α β : Type} (f : α → Option β) : ∀ (l : List α) (r : List β), l.mapM f = some r → l.map f = r.map some
  | [], r, h => by simp at h; subst h; rfl
  | x :: l, r, h => by
    rw [List.mapM_cons] at h
    cases hx : f x with
    | none => simp [hx] at h
    | some y =>
      cases hl : l.mapM f with
      | none => simp [hx, hl] at h
      | some ys =>
        simp [hx, hl] at h
        subst h
        simp [hx, mapM_some f l ys hl]

theorem ok_build {t : Nat} {parts : Array (Nat × Operand)} {zero : List Value} {qs : List (Nat × Nat × Operand)} (ho : o.op = .build t parts) (hp : partsOf P t parts.toList = some (zero, qs))
    (hR : Rel H ρ w) (hE : VRwl H ρ w E a.tmps.toList) (hv : vcOp P (.build zero qs) K H E) :
    Out P ((execOp a.eval o).run P w) (Post K H ρ w) := by
  unfold partsOf at hp
  split at hp
  · rename_i it fields hit hu
    split at hp
    · rename_i z places hz hpl
      split at hp
      · rename_i qs' hm
        split at hp
        · rename_i h1
          simp only [Option.some.injEq, Prod.mk.injEq] at hp
          obtain ⟨rfl, rfl⟩ := hp
          simp only [vcOp] at hv
          split at hv
          · rename_i cs hcs
            obtain ⟨cells, e1, e2, e3⟩ := fill_ok (places.toArray[·]?) hE parts.toList qs' (z.cells.toList.map .v) cs z.cells (mapM_some _ _ _ hm) (VRl.v _) (fun x hx => List.all_eq_true.1 h1 x hx) hcs
            have hrun : (execOp a.eval o).run P w = .ok (.value (.agg cells)) w := by
              have hb := run_build (P := P) w t (parts.map fun p => (p.1, a.eval p.2)) cells (by
                unfold Program.built
                simp only [hit, hu, hz, hpl]
                simpa using e1)
              simp only [execOp, ho, Sem.run_bind, hb, Result.andThen_ok, Sem.run_pure]
            rw [hrun]
            refine Post.same hR hv ?_
            have := VR.agg (N := H.nx) (ρ := ρ) (L := Live H ρ) (w := w) cs cells.toList e2.1 e3 e2.2
            simpa using this
          · exact hv.elim
        · cases hp
      · cases hp
    · cases hp
  · cases hp

theorem ok_len {t : Nat} {x : Operand} (ho : o.op = .call { callee := .builtin .len, args := #[x], argTypes := #[t] }) {c : Bool}
    (hu : if c then P.underlying t = some .string else ∃ e, P.underlying t = some (.slice e)) (hR : Rel H ρ w) (hE : VRwl H ρ w E a.tmps.toList) (hv : vcOp P (.len c x) K H E) :
    Out P ((execOp a.eval o).run P w) (Post K H ρ w) := by
  have hx := ev_ok hE x
  simp only [vcOp] at hv
  generalize hxx : a.eval x = xx at hx
  cases c with
  | true =>
    simp only [if_true] at hu hv
    split at hv
    · rename_i s hp
      rw [hp] at hx
      have hx := hx.v_inv
      subst hx
      have hrun : (execOp a.eval o).run P w = .ok (.value (.int .i64 s.size)) w := by simp [execOp, ho, resolve, invoke, builtin, hxx, Builtin.len_, run_underlying hu, goInt]
      rw [hrun]; exact Post.same hR hv (.v _)
    · exact hv.elim
  | false =>
    simp only [Bool.false_eq_true, if_false] at hu hv
    obtain ⟨e, hu⟩ := hu
    have hrun : ∀ ad n c, xx = .slice ad n c → (execOp a.eval o).run P w = .ok (.value (.int .i64 n)) w := fun ad n c h => by
      subst h
      simp [execOp, ho, resolve, invoke, builtin, hxx, Builtin.len_, run_underlying hu, goInt]
    split at hv
    · rename_i hp
      rw [hp] at hx
      cases hx
      rw [hrun _ _ _ rfl]; exact Post.same hR hv (.v _)
    · rename_i hp
      rw [hp] at hx
      cases hx
      rw [hrun _ _ _ rfl]; exact Post.same hR hv (.v _)
    · rename_i ad n c hp
      rw [hp] at hx
      rw [hrun _ _ _ hx.v_inv]; exact Post.same hR hv (.v _)
    · exact hv.elim

theorem ok_mn {ts : Array Nat} {x y : Operand} (ho : o.op = .call { callee := .builtin .min, args := #[x, y], argTypes := ts }) (hR : Rel H ρ w) (hE : VRwl H ρ w E a.tmps.toList) (hv : vcOp P (.mn x y) K H E) :
    Out P ((execOp a.eval o).run P w) (Post K H ρ w) := by
  have hx := ev_ok hE x
  have hy := ev_ok hE y
  simp only [vcOp] at hv
  split at hv
  · rename_i k p k' q hp hq
    rw [hp] at hx; rw [hq] at hy
    have hx := hx.v_inv; have hy := hy.v_inv
    have hrun : (execOp a.eval o).run P w = .ok (.value (.int k (if q < p then q else p))) w := by simp [execOp, ho, resolve, invoke, builtin, hx, hy, Builtin.min_, Builtin.min2]
    rw [hrun]; exact Post.same hR hv (.v _)
  · exact hv.elim
theorem ok_mx {ts : Array Nat} {x y : Operand} (ho : o.op = .call { callee := .builtin .max, args := #[x, y], argTypes := ts }) (hR : Rel H ρ w) (hE : VRwl H ρ w E a.tmps.toList) (hv : vcOp P (.mx x y) K H E) :
    Out P ((execOp a.eval o).run P w) (Post K H ρ w) := by
  have hx := ev_ok hE x
  have hy := ev_ok hE y
  simp only [vcOp] at hv
  split at hv
  · rename_i k p k' q hp hq
    rw [hp] at hx; rw [hq] at hy
    have hx := hx.v_inv; have hy := hy.v_inv
    have hrun : (execOp a.eval o).run P w = .ok (.value (.int k (if q > p then q else p))) w := by simp [execOp, ho, resolve, invoke, builtin, hx, hy, Builtin.max_, Builtin.max2]
    rw [hrun]; exact Post.same hR hv (.v _)
  · exact hv.elim

theorem ok_call {f : Operand} {args : Array Operand} {ts : Array Nat} (ho : o.op = .call { callee := .value f, args := args, argTypes := ts }) (hR : Rel H ρ w) (hE : VRwl H ρ w E a.tmps.toList) (hv : vcOp P (.call f args.toList) K H E) :
    Out P ((execOp a.eval o).run P w) (Post K H ρ w) := by
  have hx := ev_ok hE f
  simp only [vcOp] at hv
  generalize hxx : a.eval f = xx at hx
  split at hv
  · rename_i g caps hp
    rw [hp] at hx
    obtain ⟨Q, hq, hk⟩ := hv
    cases hx with
    | fn g cs vs h1 h2 =>
    have e : (args.toList.map a.eval).toArray = args.map a.eval := by rw [← Array.toList_map, Array.toArray_toList]
    have hrun : (execOp a.eval o).run P w = (callFunc g (args.toList.map a.eval ++ vs).toArray).run P w := by
      rw [← List.append_toArray, e]
      simp [execOp, ho, resolve, hxx, Deferred.ofValue, invoke]
    rw [hrun]
    have := hq.use (vs := args.toList.map a.eval ++ vs) hR ((ev_map_ok hE args.toList).append ⟨h1, h2⟩)
    exact this.mono fun x w' ⟨r, H', ρ', k1, k2⟩ => ⟨r, H', ρ', hk _ _ k1, k2⟩
  · exact hv.elim

theorem run_bounds {lo hi : Option Operand} {d : Int} {y : Nat} {l h : Int} (hE : VRwl H ρ w E a.tmps.toList) (hl : bound E 0 lo = some l) (hh : bound E d hi = some h) (hd : hi = none → d = y) (h0 : 0 ≤ l) (h1 : l ≤ h) {c : Nat} (h2 : h ≤ c) (b : Bool) (_ : y ≤ c) :
    (Instr.sliceBounds b y c (lo.map a.eval) (hi.map a.eval) none).run P w = .ok (l.toNat, h.toNat, c) w := by
  have key : ∀ (x : Operand) (z : Int) (d' : Int), bound E d' (some x) = some z → ∃ k, a.eval x = .int k z := fun x z d' hb => by
    simp only [bound] at hb
    split at hb
    · rename_i k q hq
      have := ev_ok hE x
      rw [hq] at this
      cases hb
      exact ⟨k, this.v_inv⟩
    · cases hb
  have e1 : ((h.toNat : Nat) : Int) = h := by omega
  cases hi with
  | none =>
    simp only [bound, Option.some.injEq] at hh
    have hy := hd rfl
    cases lo with
    | none =>
      simp only [bound, Option.some.injEq] at hl
      subst hl
      simp [Instr.sliceBounds]; omega
    | some x =>
      obtain ⟨k, hk⟩ := key x l _ hl
      have : l ≤ (y : Int) := by omega
      simp [Instr.sliceBounds, Instr.sliceBound, hk, asIntOf, h0, this]; omega
  | some z =>
    obtain ⟨k', hk'⟩ := key z h _ hh
    have h00 : 0 ≤ h := by omega
    cases lo with
    | none =>
      simp only [bound, Option.some.injEq] at hl
      subst hl
      simp [Instr.sliceBounds, Instr.sliceBound, hk', asIntOf, h00, h2]
    | some x =>
      obtain ⟨k, hk⟩ := key x l _ hl
      simp [Instr.sliceBounds, Instr.sliceBound, hk, hk', asIntOf, h0, h00, h1, h2, e1]

theorem ok_sstr {t : Nat} {x : Operand} {lo hi : Option Operand} (ho : o.op = .slice t x lo hi none) (hu : P.underlying t = some .string)
    (hR : Rel H ρ w) (hE : VRwl H ρ w E a.tmps.toList) (hv : vcOp P (.sstr x lo hi) K H E) :
    Out P ((execOp a.eval o).run P w) (Post K H ρ w) := by
  have hx := ev_ok hE x
  simp only [vcOp] at hv
  split at hv
  · rename_i s hp
    rw [hp] at hx
    have hx := hx.v_inv
    split at hv
    · rename_i l h hl hh
      obtain ⟨h0, h1, h2, hv⟩ := hv
      have hb := run_bounds (P := P) (y := s.size) hE hl hh (fun _ => rfl) h0 h1 h2 false (Nat.le_refl _)
      have hrun : (execOp a.eval o).run P w = .ok (.value (.string (s.extract l.toNat h.toNat))) w := by
        simp [execOp, ho, hx, Instr.sliceAt, Instr.slice, run_underlying hu, hb]
      rw [hrun]; exact Post.same hR hv (.v _)
    · exact hv.elim
  · exact hv.elim

theorem VR.ro_cut {s : Nat} {xs : List (List AV)} {ad : Option Addr} {c : Nat} (h : VRw H ρ w (.ro s xs) (.slice ad xs.length c)) {l q : Nat} (h1 : l ≤ q) (h2 : q ≤ xs.length) :
    VRw H ρ w (.ro s ((xs.take q).drop l)) (.slice (if c = l then ad else ad.map (·.add (l * s))) (q - l) (c - l)) := by
  cases h with
  | ro s xs ad c vs r1 r2 r3 r4 r5 =>
  have hlen : ((xs.take q).drop l).length = q - l := by simp; omega
  have hr1 : ∀ r, r ∈ (xs.take q).drop l → r.length = s := fun r hr => r1 r (List.mem_of_mem_take (List.mem_of_mem_drop hr))
  have hfl : ((xs.take q).drop l).flatten = (xs.flatten.drop (l * s)).take ((q - l) * s) := by
    rw [flatten_drop _ _ (fun r hr => r1 r (List.mem_of_mem_take hr)), flatten_take xs q r1, List.drop_take]
    congr 1; rw [Nat.sub_mul]
  have hvl := (VRl.drop (⟨r3, r5⟩ : VRwl H ρ w xs.flatten vs) (l * s)).take ((q - l) * s)
  rw [← hfl] at hvl
  have hle : (((xs.take q).drop l)).length ≤ c - l := by rw [hlen]; omega
  have := VR.ro (N := H.nx) (ρ := ρ) (L := Live H ρ) (w := w) s ((xs.take q).drop l) (if c = l then ad else ad.map (·.add (l * s))) (c - l) ((vs.drop (l * s)).take ((q - l) * s)) hr1 hle hvl.1 (fun hne => ?_) hvl.2
  · rw [hlen] at this; exact this
  · have hql : l < q := by
      rcases Nat.lt_or_ge l q with h | h
      · exact h
      · exact absurd (List.eq_nil_of_length_eq_zero (by rw [hlen]; omega)) hne
    obtain ⟨ad', rfl, hc⟩ := r4 (by intro h; subst h; simp at h2; omega)
    refine ⟨ad'.add (l * s), by rw [if_neg (by omega)]; rfl, fun p x hpx => ?_⟩
    rw [List.getElem?_take] at hpx
    split at hpx
    · rw [List.getElem?_drop] at hpx
      rw [addr_add]; exact hc _ _ hpx
    · cases hpx

theorem ok_slc {t e : Nat} {x : Operand} {lo hi : Option Operand} {ie : TypeInfo} (ho : o.op = .slice t x lo hi none) (hu : P.underlying t = some (.slice e)) (hi' : P.info? e = some ie)
    (hR : Rel H ρ w) (hE : VRwl H ρ w E a.tmps.toList) (hv : vcOp P (.slc ie.size x lo hi) K H E) :
    Out P ((execOp a.eval o).run P w) (Post K H ρ w) := by
  have hx := ev_ok hE x
  simp only [vcOp] at hv
  generalize hxx : a.eval x = xx at hx
  split at hv
  · rename_i s xs hp
    rw [hp] at hx
    split at hv
    · rename_i l h hl hh
      obtain ⟨rfl, h0, h1, h2, hv⟩ := hv
      have hx0 := hx
      cases hx with
      | ro s xs ad c vs r1 r2 r3 r4 r5 =>
      have hb := run_bounds (P := P) (y := xs.length) (c := c) hE hl hh (fun _ => rfl) h0 h1 (by omega) true r2
      have hrun : (execOp a.eval o).run P w = .ok (.value (.slice (if c = l.toNat then ad else ad.map (·.add (l.toNat * ie.size))) (h.toNat - l.toNat) (c - l.toNat))) w := by
        simp [execOp, ho, hxx, Instr.sliceAt, Instr.slice, run_underlying hu, hb, sizeOf, typeInfo, hi']
      rw [hrun]
      exact Post.same hR hv (VR.ro_cut hx0 (by omega) (by omega))
    · exact hv.elim
  · rename_i b n hp
    rw [hp] at hx
    split at hv
    · rename_i l h hl hh
      obtain ⟨rfl, h1, h2, hv⟩ := hv
      cases hx with
      | own b n c q1 q2 q3 =>
      have hb := run_bounds (P := P) (y := n) (c := c) hE hl hh (fun _ => rfl) (by omega) h1 (by omega) true q2
      have hrun : (execOp a.eval o).run P w = .ok (.value (.slice (some ⟨(ρ b).k, 0, none⟩) h.toNat c)) w := by
        simp [execOp, ho, hxx, Instr.sliceAt, Instr.slice, run_underlying hu, hb, sizeOf, typeInfo, hi', Addr.add]
      rw [hrun]
      exact Post.same hR hv (.own b h.toNat c q1 (by omega) q3)
    · exact hv.elim
  · exact hv.elim
end
end Go.Abs
