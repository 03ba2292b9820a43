/- Operations on abstract states: that what is shown of each is so (memory). Laws of the model alone. -/
import Derived.Test.YtpaflfaokgapgaaA5
import Derived.Laws.MakeOwn
import Derived.Great.BuildSlice
namespace Go.Abs
section
variable {P : Program} {K : AV → Heap → Prop} {H : Heap} {ρ : Nat → Bl} {w : World} {E : List AV} {a : Act} {o : Oper}

/-- A type's shape: is it a struct or an array; how many cells has it? -/
def aggT (P : Program) (t : Nat) : Option (Bool × Nat) :=
  match P.underlying t, P.info? t with
  | some (.struct _), some i | some (.array _ _), some i => some (true, i.size)
  | some _, some i => if i.size = 1 then some (false, 1) else none
  | _, _ => none

theorem aggT_true {t n : Nat} (h : aggT P t = some (true, n)) (w : World) : (isAgg t).run P w = .ok true w ∧ (sizeOf t).run P w = .ok n w := by
  unfold aggT at h
  split at h
  · rename_i hu hi; cases h; simp [isAgg, run_underlying hu, sizeOf, typeInfo, hi]
  · rename_i hu hi; cases h; simp [isAgg, run_underlying hu, sizeOf, typeInfo, hi]
  · split at h <;> simp at h
  · simp at h
theorem aggT_false {t n : Nat} (h : aggT P t = some (false, n)) (w : World) : (isAgg t).run P w = .ok false w ∧ (sizeOf t).run P w = .ok n w ∧ n = 1 := by
  unfold aggT at h
  split at h
  · simp at h
  · simp at h
  · rename_i d i n1 n2 hu hi
    split at h
    · rename_i hs
      simp at h
      subst h
      refine ⟨?_, by simp [sizeOf, typeInfo, hi, hs], rfl⟩
      simp only [isAgg, Sem.run_bind, run_underlying hu, Result.andThen_ok]
      cases d <;> first | rfl | exact (n1 _ rfl).elim | exact (n2 _ _ rfl).elim | exact (n1 _ rfl).elim
    · cases h
  · simp at h

theorem loadVar_ok {t n : Nat} {agg : Bool} (h : aggT P t = some (agg, n)) {ad : Addr} {vs : List Value} (hl : vs.length = n) (hc : ∀ (p : Nat) (x : Value), vs[p]? = some x → w.cell? (ad.add p) = some x)
    {cs : List AV} (hv : VRwl H ρ w cs vs) (h1 : Ones vs) : ∃ x, (loadVar t ad).run P w = .ok x w ∧ VRw H ρ w (pack agg cs) x := by
  cases agg with
  | true =>
    obtain ⟨e1, e2⟩ := aggT_true h w
    refine ⟨.agg vs.toArray, ?_, .agg cs vs hv.1 h1 hv.2⟩
    have := run_loadCells_list (P := P) w ad vs hc
    rw [hl] at this
    simp [loadVar, e1, e2, this]
  | false =>
    obtain ⟨e1, e2, rfl⟩ := aggT_false h w
    obtain ⟨x, hx, hxv⟩ := hv.get (p := 0) (by rw [← hv.1, hl]; omega)
    have := hc 0 x hx
    rw [show ad.add 0 = ad from rfl] at this
    exact ⟨x, by simp [loadVar, e1, this], hxv⟩

theorem blk_part {b : Nat} {x : Blk} {cur : Array Value} {ty : TypeId} (hk : BlkOk H ρ w b x cur ty) {i j n : Nat} (hi : i < x.el.length) (hj : j + n ≤ x.sz) :
    ∃ vs : List Value, vs.length = n ∧ VRwl H ρ w (((x.el.getD i []).drop j).take n) vs ∧ Ones vs ∧ ∀ (p : Nat) (y : Value), vs[p]? = some y → w.cell? ((⟨(ρ b).k, i * x.sz + j, none⟩ : Addr).add p) = some y := by
  have hfit : i * x.sz + j + n ≤ x.el.length * x.sz := by
    have : (i + 1) * x.sz ≤ x.el.length * x.sz := Nat.mul_le_mul_right _ hi
    rw [Nat.add_mul] at this; omega
  have hlen : x.el.length * x.sz ≤ cur.size := by rw [hk.size]; exact Nat.mul_le_mul_right _ hk.len
  refine ⟨((cur.toList.take (x.el.length * x.sz)).drop (i * x.sz + j)).take n, ?_, ?_, ?_, ?_⟩
  · simp only [List.length_take, List.length_drop, Array.length_toList]; omega
  · rw [flatten_part x.el i j n hk.rows hi hj]
    exact (hk.rel.drop _).take n
  · exact (Ones.drop hk.ones _).take n
  · intro p y hp
    rw [List.getElem?_take] at hp
    split at hp
    · rename_i hpn
      rw [List.getElem?_drop, List.getElem?_take, if_pos (by omega)] at hp
      have : ((⟨(ρ b).k, i * x.sz + j, none⟩ : Addr).add p) = ⟨(ρ b).k, i * x.sz + j + p, none⟩ := by unfold Addr.add; split <;> simp_all
      rw [this, cell_of_row w _ _ cur ty (0, 0) hk.at_]
      simpa using hp
    · cases hp

theorem ok_load {t n : Nat} {agg : Bool} {x : Operand} (ho : o.op = .load t x) (ht : aggT P t = some (agg, n)) (hR : Rel H ρ w) (hE : VRwl H ρ w E a.tmps.toList) (hv : vcOp P (.load agg n x) K H E) :
    Out P ((execOp a.eval o).run P w) (Post K H ρ w) := by
  have hx := ev_ok hE x
  simp only [vcOp] at hv
  generalize hxx : a.eval x = xx at hx
  split at hv
  · rename_i cs hp
    rw [hp] at hx
    cases hx with
    | rp cs ad vs h1 h2 h3 =>
    have hvl : VRwl H ρ w cs vs := ⟨h1, h3⟩
    obtain ⟨y, hy, hyv⟩ := loadVar_ok ht (ad := ad) (vs := vs.take n) (w := w) (H := H) (ρ := ρ) (cs := cs.take n) (by simp; omega)
      (fun p x hpx => by rw [List.getElem?_take] at hpx; split at hpx; exact (h2 p x hpx).1; cases hpx) (hvl.take n)
      (fun x hx => by obtain ⟨p, hp', e⟩ := List.mem_iff_getElem.1 (List.mem_of_mem_take hx); exact (h2 p x (by rw [← e]; exact List.getElem?_eq_getElem hp')).2.1)
    have : (execOp a.eval o).run P w = .ok (.value y) w := by simp [execOp, ho, hxx, Instr.loadAt, Instr.sureAddr, hy]
    rw [this]
    exact Post.same hR hv.2 hyv
  · rename_i b i j hp
    rw [hp] at hx
    split at hv
    · rename_i bx hb
      obtain ⟨hi, hj, hv⟩ := hv
      cases hx with
      | ptr b i j h1 =>
      obtain ⟨cur, ty, hk⟩ := hR.blk b bx hb
      obtain ⟨vs, e1, e2, e3, e4⟩ := blk_part hk hi hj
      rw [hk.sz] at hxx
      obtain ⟨y, hy, hyv⟩ := loadVar_ok ht e1 e4 e2 e3
      have : (execOp a.eval o).run P w = .ok (.value y) w := by simp [execOp, ho, hxx, Instr.loadAt, Instr.sureAddr, hy]
      rw [this]
      exact Post.same hR hv hyv
    · exact hv.elim
  · exact hv.elim

theorem ok_store {t n : Nat} {agg : Bool} {x y : Operand} (ho : o.op = .store t x y) (ht : aggT P t = some (agg, n)) (hR : Rel H ρ w) (hE : VRwl H ρ w E a.tmps.toList) (hv : vcOp P (.store n x y) K H E) :
    Out P ((execOp a.eval o).run P w) (Post K H ρ w) := by
  have hx := ev_ok hE x
  have hy := ev_ok hE y
  have hsz : (sizeOf t).run P w = .ok n w := by cases agg with | true => exact (aggT_true ht w).2 | false => exact (aggT_false ht w).2.1
  simp only [vcOp] at hv
  generalize hxx : a.eval x = xx at hx
  generalize hyy : a.eval y = yy at hy
  split at hv
  · rename_i b i j hp
    rw [hp] at hx
    split at hv
    · rename_i bx hb
      obtain ⟨hs, hn, hi, hj, hv⟩ := hv
      obtain ⟨c1, c2⟩ := cells_ok hy hs
      cases hx with
      | ptr b i j h1 =>
      obtain ⟨cur, ty, hk⟩ := hR.blk b bx hb
      rw [hk.sz] at hxx
      have hl : yy.cells.toList.length = n := by rw [c1.1, hn]
      have hn' : yy.cells.size = n := by rw [← Array.length_toList]; exact hl
      have hfit : i * bx.sz + j + n ≤ bx.el.length * bx.sz := by
        have : (i + 1) * bx.sz ≤ bx.el.length * bx.sz := Nat.mul_le_mul_right _ hi
        rw [Nat.add_mul] at this; omega
      have hlen : bx.el.length * bx.sz ≤ cur.size := by rw [hk.size]; exact Nat.mul_le_mul_right _ hk.len
      have hst := run_storeCells_at P (ρ b).k (i * bx.sz + j) ty yy.cells.toList 0 cur w hk.at_ (by rw [hl]; omega) c2
      simp only [Nat.add_zero] at hst
      have hrun : (execOp a.eval o).run P w = .ok .skip (w.setRow (ρ b).k (cur.toList.take (i * bx.sz + j) ++ yy.cells.toList ++ cur.toList.drop (i * bx.sz + j + yy.cells.toList.length)).toArray) := by
        simp [execOp, ho, hxx, hyy, Instr.storeAt, Instr.sureAddr, storeVar, hsz, hn']
        simp [hst, hn']
      rw [hrun]
      have hset := set_ok hR hb hk ⟨bx.sz, bx.el.set i (splice (bx.el.getD i []) j (cellsOf (ev E y)))⟩
        (cur.toList.take (i * bx.sz + j) ++ yy.cells.toList ++ cur.toList.drop (i * bx.sz + j + yy.cells.toList.length)).toArray rfl
        (by simp only [List.size_toArray, List.length_append, List.length_take, List.length_drop, Array.length_toList, hn']; omega)
        (fun r hr => by
          rcases List.mem_or_eq_of_mem_set hr with h | h
          · exact hk.rows r h
          · have h3 := (flatten_split bx.el i hk.rows hi).2.2
            rw [h]; unfold splice
            simp only [List.length_append, List.length_take, List.length_drop]; omega)
        (by simpa using hk.len)
      have htk : ((cur.toList.take (i * bx.sz + j) ++ yy.cells.toList ++ cur.toList.drop (i * bx.sz + j + yy.cells.toList.length))).take (bx.el.length * bx.sz) =
          (cur.toList.take (bx.el.length * bx.sz)).take (i * bx.sz + j) ++ yy.cells.toList ++ (cur.toList.take (bx.el.length * bx.sz)).drop (i * bx.sz + j + yy.cells.toList.length) := by
        rw [List.take_append, List.take_of_length_le (by simp only [List.length_append, List.length_take, Array.length_toList, hn']; omega)]
        rw [List.take_take, Nat.min_eq_left (by omega), List.drop_take]
        congr 2
        simp only [List.length_append, List.length_take, Array.length_toList, hn']; omega
      have hset := hset (by simp only [List.length_set]; rw [htk]; exact ((hk.ones.take _).append c2).append (hk.ones.drop _))
        (by simp only [List.length_set]; rw [htk, flatten_set bx.el i j _ hk.rows hi (by omega)]; exact hk.rel.splice c1 _)
      exact ⟨.any, _, ρ, hv, hset.1, .any _, hset.2⟩
    · exact hv.elim
  · exact hv.elim
end
end Go.Abs
