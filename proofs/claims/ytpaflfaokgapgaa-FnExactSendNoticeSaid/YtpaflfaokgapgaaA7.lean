/- Operations on abstract states: that what is shown of each is so (addresses, new blocks, slices). Laws of the model alone. -/
import Derived.Test.YtpaflfaokgapgaaA6
namespace Go.Abs
section
variable {P : Program} {K : AV → Heap → Prop} {H : Heap} {ρ : Nat → Bl} {w : World} {E : List AV} {a : Act} {o : Oper}

theorem addr_add (a : Addr) (m n : Nat) : (a.add m).add n = a.add (m + n) := by
  cases a with
  | mk b o s =>
    unfold Addr.add
    by_cases h1 : m = 0
    · subst h1; simp
    · by_cases h2 : n = 0
      · subst h2; simp
      · rw [if_neg h1, if_neg h2, if_neg (by omega)]; simp [Nat.add_assoc]
theorem addr_mk (k m n : Nat) : (⟨k, m, none⟩ : Addr).add n = ⟨k, m + n, none⟩ := by unfold Addr.add; split <;> simp_all

theorem ok_alloc {t : Nat} {i : TypeInfo} {z : Value} (ho : o.op = .alloc t) (hi : P.info? t = some i) (hz : i.zero = some z) (h1 : z.cells.toList.all (·.oneCell') = true)
    (hR : Rel H ρ w) (hv : vcOp P (.alloc z.cells.toList) K H E) :
    Out P ((execOp a.eval o).run P w) (Post K H ρ w) := by
  have hrun : (execOp a.eval o).run P w = .ok (.value (.pointer (some ⟨w.heap.size, 0, none⟩))) (w.alloc (.cells z.cells t)) := by
    simp [execOp, ho, Instr.alloc, zeroValue, typeInfo, hi, hz, newVar, newRow]
  rw [hrun]
  have h1' : Ones z.cells.toList := fun x hx => List.all_eq_true.1 h1 x hx
  obtain ⟨ρ', e1, e2, e3⟩ := alloc_ok hR (w' := w.alloc (.cells z.cells t)) (cur := z.cells) (ty := t) rfl rfl rfl rfl ⟨z.cells.toList.length, [z.cells.toList.map .v]⟩ 1 (by simp) (by unfold maxLen; omega)
    (fun r hr => by simp at hr; subst hr; simp) (by simp) (h1'.take _) (by
      simp only [List.flatten_cons, List.flatten_nil, List.append_nil, List.length_cons, List.length_nil, Nat.zero_add, Nat.one_mul, List.take_length]
      exact VRl.v _)
  refine ⟨_, _, ρ', hv, e1, ?_, e2⟩
  have := VR.ptr (N := (H.alloc ⟨z.cells.toList.length, [z.cells.toList.map .v]⟩).nx) (ρ := ρ') (L := Live (H.alloc ⟨z.cells.toList.length, [z.cells.toList.map .v]⟩) ρ') (w := w.alloc (.cells z.cells t)) H.nx 0 0 (Nat.lt_succ_self _)
  rw [e3] at this
  simpa using this

theorem new_ok (hR : Rel H ρ w) {r : AV} {x : Value} (hx : VRw H ρ w r x) (hs : storable r = true) (t : Nat) :
    ∃ ρ', Rel (H.alloc ⟨(cellsOf r).length, [cellsOf r]⟩) ρ' (w.alloc (.cells x.cells t)) ∧ Nx H ρ w (H.alloc ⟨(cellsOf r).length, [cellsOf r]⟩) ρ' (w.alloc (.cells x.cells t)) ∧
      VRw (H.alloc ⟨(cellsOf r).length, [cellsOf r]⟩) ρ' (w.alloc (.cells x.cells t)) (.ptr H.nx 0 0) (.pointer (some ⟨w.heap.size, 0, none⟩)) := by
  obtain ⟨c1, c2⟩ := cells_ok hx hs
  obtain ⟨ρ', e1, e2, e3⟩ := alloc_ok hR (w' := w.alloc (.cells x.cells t)) (cur := x.cells) (ty := t) rfl rfl rfl rfl ⟨(cellsOf r).length, [cellsOf r]⟩ 1
    (by rw [Nat.one_mul, ← c1.1, Array.length_toList]) (by unfold maxLen; omega)
    (fun r hr => by simp at hr; subst hr; rfl) (by simp) (c2.take _) (by
      simp only [List.flatten_cons, List.flatten_nil, List.append_nil, List.length_cons, List.length_nil, Nat.zero_add, Nat.one_mul, ← c1.1, List.take_length]
      exact c1)
  refine ⟨ρ', e1, e2, ?_⟩
  have := VR.ptr (N := (H.alloc ⟨(cellsOf r).length, [cellsOf r]⟩).nx) (ρ := ρ') (L := Live (H.alloc ⟨(cellsOf r).length, [cellsOf r]⟩) ρ') (w := w.alloc (.cells x.cells t)) H.nx 0 0 (Nat.lt_succ_self _)
  rw [e3] at this
  simpa using this

theorem ok_box {t : Nat} {x : Operand} (ho : o.op = .box t x) (hR : Rel H ρ w) (hE : VRwl H ρ w E a.tmps.toList) (hv : vcOp P (.box x) K H E) :
    Out P ((execOp a.eval o).run P w) (Post K H ρ w) := by
  obtain ⟨hs, hv⟩ := hv
  obtain ⟨ρ', e1, e2, e3⟩ := new_ok hR (ev_ok hE x) hs t
  have hrun : (execOp a.eval o).run P w = .ok (.value (.pointer (some ⟨w.heap.size, 0, none⟩))) (w.alloc (.cells (a.eval x).cells t)) := by
    simp [execOp, ho, Instr.box, newVar, newRow]
  rw [hrun]
  exact ⟨_, _, ρ', hv, e1, e3, e2⟩

theorem ok_nilck {x : Operand} (ho : o.op = .nilCheck x) (hR : Rel H ρ w) (hE : VRwl H ρ w E a.tmps.toList) (hv : vcOp P (.nilck x) K H E) :
    Out P ((execOp a.eval o).run P w) (Post K H ρ w) := by
  have hx := ev_ok hE x
  simp only [vcOp] at hv
  generalize hxx : a.eval x = xx at hx
  split at hv
  · rename_i b i j hp
    rw [hp] at hx
    have hrun : (execOp a.eval o).run P w = .ok (.value xx) w := by cases hx; simp [execOp, ho, hxx]
    rw [hrun]
    exact Post.same hR hv hx
  · rename_i cs hp
    rw [hp] at hx
    have hrun : (execOp a.eval o).run P w = .ok (.value xx) w := by cases hx; simp [execOp, ho, hxx]
    rw [hrun]
    exact Post.same hR hv hx
  · exact hv.elim

theorem ok_fa {t k : Nat} {x : Operand} {fs : Array Field} {f : Field} (ho : o.op = .fieldAddr t x k) (hu : P.underlying t = some (.struct fs)) (hf : fs[k]? = some f) {i : TypeInfo} (hi : P.info? f.type = some i) (hs : i.size ≠ 0)
    (hR : Rel H ρ w) (hE : VRwl H ρ w E a.tmps.toList) (hv : vcOp P (.fa f.offset x) K H E) :
    Out P ((execOp a.eval o).run P w) (Post K H ρ w) := by
  have hx := ev_ok hE x
  simp only [vcOp] at hv
  generalize hxx : a.eval x = xx at hx
  have hrun : ∀ ad : Addr, xx = .pointer (some ad) → (execOp a.eval o).run P w = .ok (.value (.pointer (some (ad.add f.offset)))) w := fun ad e => by
    subst e
    simp [execOp, ho, hxx, Instr.fieldAt, Instr.sureAddr, run_underlying hu, hf, fieldPlace, sizeOf, typeInfo, hi, hs]
  split at hv
  · rename_i b i j hp
    rw [hp] at hx
    cases hx with
    | ptr b i j h1 =>
    rw [hrun _ rfl, addr_mk, Nat.add_assoc]
    exact Post.same hR hv (.ptr b i (j + f.offset) h1)
  · rename_i cs hp
    rw [hp] at hx
    cases hx with
    | rp cs ad vs h1 h2 h3 =>
    rw [hrun _ rfl]
    refine Post.same hR hv (.rp _ _ (vs.drop f.offset) (by simp [h1]) (fun p x hpx => ?_) (VRl.drop (⟨h1, h3⟩ : VRwl H ρ w cs vs) _).2)
    rw [List.getElem?_drop] at hpx
    rw [addr_add]
    exact h2 _ _ hpx
  · exact hv.elim

theorem ok_fld {t k n : Nat} {agg : Bool} {x : Operand} {fs : Array Field} {f : Field} (ho : o.op = .field t x k) (hu : P.underlying t = some (.struct fs)) (hf : fs[k]? = some f) (ht : aggT P f.type = some (agg, n))
    (hR : Rel H ρ w) (hE : VRwl H ρ w E a.tmps.toList) (hv : vcOp P (.fld agg f.offset n x) K H E) :
    Out P ((execOp a.eval o).run P w) (Post K H ρ w) := by
  have hx := ev_ok hE x
  simp only [vcOp] at hv
  generalize hxx : a.eval x = xx at hx
  split at hv
  · rename_i cs hp
    rw [hp] at hx
    cases hx with
    | agg cs vs h1 h2 h3 =>
    obtain ⟨hle, hv⟩ := hv
    have hvl : VRwl H ρ w cs vs := ⟨h1, h3⟩
    have hpl := (hvl.drop f.offset).take n
    cases agg with
    | true =>
      obtain ⟨e1, e2⟩ := aggT_true ht w
      have hrun : (execOp a.eval o).run P w = .ok (.value (.agg ((vs.drop f.offset).take n).toArray)) w := by
        simp [execOp, ho, hxx, Instr.field, run_underlying hu, hf, asAgg, part, e1, e2, List.extract_eq_take_drop]
      rw [hrun]
      exact Post.same hR hv (.agg _ _ hpl.1 ((Ones.drop h2 _).take n) hpl.2)
    | false =>
      obtain ⟨e1, e2, rfl⟩ := aggT_false ht w
      obtain ⟨y, hy, hyv⟩ := hpl.get (p := 0) (by rw [List.length_take, List.length_drop]; omega)
      have hy' : vs[f.offset]? = some y := by simpa [List.getElem?_take, List.getElem?_drop] using hy
      have hrun : (execOp a.eval o).run P w = .ok (.value y) w := by
        simp [execOp, ho, hxx, Instr.field, run_underlying hu, hf, asAgg, part, e1, hy']
      rw [hrun]
      exact Post.same hR hv hyv
  · exact hv.elim

theorem ok_ia {t e : Nat} {x i : Operand} {ie : TypeInfo} (ho : o.op = .indexAddr t x i) (hu : P.underlying t = some (.slice e)) (hi : P.info? e = some ie)
    (hR : Rel H ρ w) (hE : VRwl H ρ w E a.tmps.toList) (hv : vcOp P (.ia ie.size x i) K H E) :
    Out P ((execOp a.eval o).run P w) (Post K H ρ w) := by
  have hx := ev_ok hE x
  have hy := ev_ok hE i
  simp only [vcOp] at hv
  generalize hxx : a.eval x = xx at hx
  generalize hyy : a.eval i = yy at hy
  have hrun : ∀ (ad : Addr) (n c : Nat) (k : IntKind) (z : Int), xx = .slice (some ad) n c → yy = .int k z → 0 ≤ z → z < n →
      (execOp a.eval o).run P w = .ok (.value (.pointer (some (ad.add (z.toNat * ie.size))))) w := fun ad n c k z e1 e2 h0 h1 => by
    subst e1; subst e2
    simp [execOp, ho, hxx, hyy, Instr.indexAt, asIntOf, run_underlying hu, sizeOf, typeInfo, hi, h0, h1]
  split at hv
  · rename_i s xs k z hp hq
    rw [hp] at hx; rw [hq] at hy
    have hy := hy.v_inv
    obtain ⟨rfl, h0, h1, hv⟩ := hv
    cases hx with
    | ro sz xs ad c vs r1 r2 r3 r4 r5 =>
    have hlt : z.toNat < xs.length := by omega
    obtain ⟨ad', rfl, hc⟩ := r4 (by intro h; subst h; simp at hlt)
    rw [hrun ad' _ c k z rfl hy h0 h1]
    have hvl : VRwl H ρ w xs.flatten vs := ⟨r3, r5⟩
    have hp0 := flatten_part xs z.toNat 0 ie.size r1 hlt (by omega)
    have hg := (flatten_split xs z.toNat r1 hlt).2.2
    rw [List.drop_zero, List.take_of_length_le (by omega)] at hp0
    have hpart := (hvl.drop (z.toNat * ie.size)).take ie.size
    have hp0' : xs.getD z.toNat [] = (xs.flatten.drop (z.toNat * ie.size)).take ie.size := by simpa using hp0
    refine Post.same hR hv (.rp _ _ ((vs.drop (z.toNat * ie.size)).take ie.size) ?_ (fun p x hpx => ?_) ?_)
    · rw [hp0']; exact hpart.1
    · rw [List.getElem?_take] at hpx
      split at hpx
      · rw [List.getElem?_drop] at hpx
        rw [addr_add]; exact hc _ _ hpx
      · cases hpx
    · rw [hp0']; exact hpart.2
  · rename_i b n k z hp hq
    rw [hp] at hx; rw [hq] at hy
    have hy := hy.v_inv
    split at hv
    · rename_i bx hb
      obtain ⟨hs, h0, h1, hv⟩ := hv
      cases hx with
      | own b n c q1 q2 q3 =>
      rw [hrun _ _ c k z rfl hy h0 h1, addr_mk]
      obtain ⟨cur, ty, hk⟩ := hR.blk b bx hb
      have := VR.ptr (L := Live H ρ) (w := w) (ρ := ρ) b z.toNat 0 q1
      rw [hk.sz, hs] at this
      refine Post.same hR hv ?_
      simpa using this
    · exact hv.elim
  · exact hv.elim

theorem ok_iaa {t e len : Nat} {x i : Operand} {ie : TypeInfo} (ho : o.op = .indexAddr t x i) (hu : P.underlying t = some (.array len e)) (hi : P.info? e = some ie)
    (hR : Rel H ρ w) (hE : VRwl H ρ w E a.tmps.toList) (hv : vcOp P (.iaa len ie.size x i) K H E) :
    Out P ((execOp a.eval o).run P w) (Post K H ρ w) := by
  have hx := ev_ok hE x
  have hy := ev_ok hE i
  simp only [vcOp] at hv
  generalize hxx : a.eval x = xx at hx
  generalize hyy : a.eval i = yy at hy
  split at hv
  · rename_i b i0 j k z hp hq
    rw [hp] at hx; rw [hq] at hy
    have hy := hy.v_inv
    obtain ⟨h0, h1, hv⟩ := hv
    cases hx with
    | ptr b i0 j q1 =>
    have hrun : (execOp a.eval o).run P w = .ok (.value (.pointer (some ((⟨(ρ b).k, i0 * (ρ b).sz + j, none⟩ : Addr).add (z.toNat * ie.size))))) w := by
      subst hy
      simp [execOp, ho, hxx, hyy, Instr.indexAt, asIntOf, run_underlying hu, sizeOf, typeInfo, hi, h0, h1, Instr.sureAddr]
    rw [hrun, addr_mk, Nat.add_assoc]
    exact Post.same hR hv (.ptr b i0 (j + z.toNat * ie.size) q1)
  · exact hv.elim

theorem ok_idx {t : Nat} {x i : Operand} (ho : o.op = .index t x i) (hu : P.underlying t = some .string)
    (hR : Rel H ρ w) (hE : VRwl H ρ w E a.tmps.toList) (hv : vcOp P (.idx x i) K H E) :
    Out P ((execOp a.eval o).run P w) (Post K H ρ w) := by
  have hx := ev_ok hE x
  have hy := ev_ok hE i
  simp only [vcOp] at hv
  split at hv
  · rename_i s k z hp hq
    rw [hp] at hx; rw [hq] at hy
    have hx := hx.v_inv
    have hy := hy.v_inv
    obtain ⟨h0, h1, hv⟩ := hv
    have hlt : z.toNat < s.size := by omega
    have hrun : (execOp a.eval o).run P w = .ok (.value (.int .u8 (byteAt s z))) w := by
      simp [execOp, ho, hx, hy, Instr.index, asIntOf, run_underlying hu, h0, getElem?_pos s z.toNat hlt, byteAt]
    rw [hrun]
    exact Post.same hR hv (.v _)
  · exact hv.elim

theorem ok_ext {x : Operand} {k : Nat} (ho : o.op = .extract x k) (hR : Rel H ρ w) (hE : VRwl H ρ w E a.tmps.toList) (hv : vcOp P (.ext x k) K H E) :
    Out P ((execOp a.eval o).run P w) (Post K H ρ w) := by
  have hx := ev_ok hE x
  simp only [vcOp] at hv
  generalize hxx : a.eval x = xx at hx
  split at hv
  · rename_i cs hp
    rw [hp] at hx
    obtain ⟨hk, hv⟩ := hv
    cases hx with
    | tup cs vs h1 h2 =>
    obtain ⟨y, hy, hyv⟩ := VRl.get (⟨h1, h2⟩ : VRwl H ρ w cs vs) hk
    have hrun : (execOp a.eval o).run P w = .ok (.value y) w := by simp [execOp, ho, hxx, Instr.extract, hy]
    rw [hrun]
    exact Post.same hR hv hyv
  · exact hv.elim

theorem ev_map_ok (hE : VRwl H ρ w E a.tmps.toList) : ∀ (xs : List Operand), VRwl H ρ w (xs.map (ev E)) (xs.map a.eval)
  | [] => VRl.nil
  | x :: xs => by simpa using (VRl.one (ev_ok hE x)).append (ev_map_ok hE xs)

theorem ok_mkf {f : Nat} {caps : Array Operand} (ho : o.op = .makeFunc (.func f) #[] caps) (hR : Rel H ρ w) (hE : VRwl H ρ w E a.tmps.toList) (hv : vcOp P (.mkf f caps.toList) K H E) :
    Out P ((execOp a.eval o).run P w) (Post K H ρ w) := by
  have hrun : (execOp a.eval o).run P w = .ok (.value (.func (.func f) #[] (caps.toList.map a.eval).toArray)) w := by
    have e : (caps.toList.map a.eval).toArray = caps.map a.eval := by rw [← Array.toList_map, Array.toArray_toList]
    rw [e]
    simp [execOp, ho, Instr.makeFunc]
  rw [hrun]
  have := ev_map_ok hE caps.toList
  exact Post.same hR hv (.fn f _ _ this.1 this.2)

theorem ok_conv {s d : Nat} {k k' : IntKind} {x : Operand} (ho : o.op = .convert s d x) (hs : P.underlying s = some (.int k')) (hd : P.underlying d = some (.int k))
    (hR : Rel H ρ w) (hE : VRwl H ρ w E a.tmps.toList) (hv : vcOp P (.conv k x) K H E) :
    Out P ((execOp a.eval o).run P w) (Post K H ρ w) := by
  have hx := ev_ok hE x
  simp only [vcOp] at hv
  split at hv
  · rename_i q n hp
    rw [hp] at hx
    have hx := hx.v_inv
    have hrun : (execOp a.eval o).run P w = .ok (.value (.int k (k.wrap n))) w := by simp [execOp, ho, hx, convert, run_underlying hs, run_underlying hd, Conv.intToInt]
    rw [hrun]
    exact Post.same hR hv (.v _)
  · exact hv.elim
end
end Go.Abs
