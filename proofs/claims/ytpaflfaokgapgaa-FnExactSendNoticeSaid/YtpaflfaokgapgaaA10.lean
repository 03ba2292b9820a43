/- Operations on abstract states: that what is shown of each is so (append). Laws of the model alone. -/
import Derived.Test.YtpaflfaokgapgaaA9
namespace Go.Abs
section
variable {P : Program} {K : AV → Heap → Prop} {H : Heap} {ρ : Nat → Bl} {w : World} {E : List AV} {a : Act} {o : Oper}

/-- What a slice whose elements are told holds. -/
theorem elems_ok {sz : Nat} {r : AV} {x : Value} {ys : List (List AV)} (hR : Rel H ρ w) (hx : VRw H ρ w r x) (he : elems sz H r = some ys) :
    ∃ news : List Value, VRwl H ρ w ys.flatten news ∧ Ones news ∧ (∀ r, r ∈ ys → r.length = sz) ∧ ∀ w' : World, w'.heap = w.heap →
      (Builtin.lenOf x).run P w' = .ok ys.length w' ∧ (Builtin.firstCells sz ys.length x).run P w' = .ok news.toArray w' := by
  have cellw : ∀ w' : World, w'.heap = w.heap → ∀ ad, w'.cell? ad = w.cell? ad := fun w' h ad => by simp [World.cell?, h]
  cases hx with
  | ro s xs ad c vs h1 h2 h3 h4 h5 =>
    simp only [elems] at he
    split at he
    · rename_i hs
      simp only [Option.some.injEq] at he
      subst he; subst hs
      refine ⟨vs, ⟨h3, h5⟩, ?_, h1, fun w' hw => ⟨rfl, ?_⟩⟩
      · intro x hx
        obtain ⟨p, hp, e⟩ := List.mem_iff_getElem.1 hx
        have hne : xs ≠ [] := by intro h; subst h; simp at h3; subst h3; simp at hp
        obtain ⟨_, _, hc⟩ := h4 hne
        exact (hc p x (by rw [← e]; exact List.getElem?_eq_getElem hp)).2.1
      · by_cases hne : xs = []
        · subst hne
          have : vs = [] := List.eq_nil_of_length_eq_zero (by simpa using h3)
          subst this
          cases ad <;> simp [Builtin.firstCells, loadCells, loadCellsFrom]
        · obtain ⟨ad', rfl, hc⟩ := h4 hne
          have hl : vs.length = xs.length * s := by rw [h3, flatten_len xs h1]
          exact run_firstCells_some (P := P) w' s xs.length ad' xs.length c vs hl (fun j v hv => by rw [cellw w' hw]; exact (hc j v hv).1)
    · cases he
  | own b n c q1 q2 q3 =>
    simp only [elems] at he
    split at he
    · rename_i y hb
      split at he
      · rename_i hs
        obtain ⟨hs, hle⟩ := hs
        simp only [Option.some.injEq] at he
        subst he; subst hs
        obtain ⟨cur, ty, hk⟩ := hR.blk b y hb
        have hlen : (y.el.take n).length = n := by simp; omega
        have hlt : n * y.sz ≤ y.el.length * y.sz := Nat.mul_le_mul_right _ hle
        refine ⟨(cur.toList.take (y.el.length * y.sz)).take (n * y.sz), ?_, hk.ones.take _, fun r hr => hk.rows r (List.mem_of_mem_take hr), fun w' hw => ?_⟩
        · rw [flatten_take y.el n hk.rows]; exact hk.rel.take _
        · rw [hlen]
          refine ⟨rfl, ?_⟩
          have hcur : y.el.length * y.sz ≤ cur.size := by rw [hk.size]; exact Nat.mul_le_mul_right _ hk.len
          refine run_firstCells_some (P := P) w' y.sz n ⟨(ρ b).k, 0, none⟩ n c _ (by simp only [List.length_take, Array.length_toList]; omega) (fun j v hv => ?_)
          rw [addr_mk, Nat.zero_add, cellw w' hw, cell_of_row w _ _ cur ty (0, 0) hk.at_]
          rw [List.getElem?_take] at hv
          split at hv
          · rw [List.getElem?_take] at hv
            split at hv
            · simpa using hv
            · cases hv
          · cases hv
      · cases he
    · cases he
  | v x =>
    simp only [elems] at he
    split at he
    · rename_i hh
      cases hh
    · rename_i hh
      cases hh
    · rename_i c hh
      cases hh
      simp only [Option.some.injEq] at he
      subst he
      exact ⟨[], VRl.nil, fun x hx => by simp at hx, fun r hr => by simp at hr, fun w' _ => ⟨rfl, rfl⟩⟩
    · cases he
  | any x => simp [elems] at he
  | ptr b i j h => simp [elems] at he
  | rp cs ad vs h1 h2 h3 => simp [elems] at he
  | agg cs vs h1 h2 h3 => simp [elems] at he
  | tup cs vs h1 h2 => simp [elems] at he
  | fn f cs vs h1 h2 => simp [elems] at he

theorem run_app_fits (t t' ty e e' : TypeId) (i : TypeInfo) (ht : P.underlying t = some (.slice e)) (ht' : P.underlying t' = some (.slice e')) (hi : P.info? e = some i)
    (g sLen sCap : Nat) (cur : Array Value) (hg : w.heap[g]? = some (.cells cur ty (0, 0))) (x : Value) (m : Nat) (news : List Value)
    (h1 : ∀ u ∈ news, u.oneCell' = true) (hlen : (Builtin.lenOf x).run P w = .ok m w) (hf : (Builtin.firstCells i.size m x).run P w = .ok news.toArray w)
    (hroom : sLen + m ≤ sCap) (hfit : sLen * i.size + news.length ≤ cur.size) (ty' : TypeId) :
    (Builtin.append_ #[t, t'] ty' #[.slice (some ⟨g, 0, none⟩) sLen sCap, x]).run P w =
      .ok (.slice (some ⟨g, 0, none⟩) (sLen + m) sCap) (w.setRow g (cur.toList.take (sLen * i.size) ++ news ++ cur.toList.drop (sLen * i.size + news.length)).toArray) := by
  have hst := run_storeCells_at P g (sLen * i.size) ty news 0 cur w hg (by simpa using hfit) h1
  simp only [Nat.add_zero] at hst
  simp [Builtin.append_, run_underlying ht, run_underlying ht', sizeOf, typeInfo, hi, hlen, hroom, hf, Addr.add_lit, hst]

theorem run_app_grows (t t' ty e e' : TypeId) (i : TypeInfo) (z : Value) (ht : P.underlying t = some (.slice e)) (ht' : P.underlying t' = some (.slice e')) (hi : P.info? e = some i) (hz : i.zero = some z)
    (s : Value) (base : Option Addr) (sLen sCap : Nat) (hs : s = .slice base sLen sCap) (olds : List Value) (ho : ∀ w' : World, w'.heap = w.heap → (Builtin.firstCells i.size sLen s).run P w' = .ok olds.toArray w')
    (x : Value) (m : Nat) (news : List Value) (hlen : (Builtin.lenOf x).run P w = .ok m w) (hf : ∀ w' : World, w'.heap = w.heap → (Builtin.firstCells i.size m x).run P w' = .ok news.toArray w')
    (hg : sCap < sLen + m) (hfit : (sLen + m) * i.bytes ≤ 140737488355328) (hb : 0 < i.bytes) :
    (Builtin.append_ #[t, t'] ty #[s, x]).run P w =
      .ok (.slice (some ⟨w.heap.size, 0, none⟩) (sLen + m) (grownCap w (sLen + m) sCap e))
        (w.drew.alloc (.cells (olds.toArray ++ news.toArray ++ Builtin.zeroCells z.cells (grownCap w (sLen + m) sCap e - (sLen + m))) e)) := by
  have hn : ¬ (sLen + m ≤ sCap) := by omega
  have hle : sLen + m ≤ 140737488355328 := Nat.le_trans (Nat.le_mul_of_pos_right _ hb) hfit
  have h63' : ¬ (9223372036854775807 < ((sLen : Int) + (m : Int))) := by omega
  have h48 := growslice_fits hg hfit
  have h48' : ¬ (281474976710656 < Builtin.nextslicecap (sLen + m) sCap * i.bytes) := by omega
  have ho' := ho w.drew rfl
  have hf' := hf w.drew rfl
  subst hs
  simp [Builtin.append_, run_underlying ht, run_underlying ht', sizeOf, typeInfo, zeroValue, hi, hz, hlen, hn, h63', h48', Question.forced, hf', ho', newRow, grownCap]
  congr 2
  apply Array.ext'
  simp [List.append_assoc]

theorem ok_app {t t' e e' : Nat} {x y : Operand} {ie : TypeInfo} {z : Value} (ho : o.op = .call { callee := .builtin .append, args := #[x, y], argTypes := #[t, t'] })
    (ht : P.underlying t = some (.slice e)) (ht' : P.underlying t' = some (.slice e')) (hi : P.info? e = some ie) (hz : ie.zero = some z) (hs : ie.size = z.cells.size) (hb : 0 < ie.bytes)
    (hR : Rel H ρ w) (hE : VRwl H ρ w E a.tmps.toList) (hv : vcOp P (.app ie.size ie.bytes x y) K H E) :
    Out P ((execOp a.eval o).run P w) (Post K H ρ w) := by
  have hx := ev_ok hE x
  have hy := ev_ok hE y
  simp only [vcOp] at hv
  generalize hxx : a.eval x = xx at hx
  generalize hyy : a.eval y = yy at hy
  split at hv
  · rename_i ys hys
    obtain ⟨news, n1, n2, n3, n4⟩ := elems_ok (P := P) hR hy hys
    have hnl : news.length = ys.length * ie.size := by rw [n1.1, flatten_len ys n3]
    have hrun : ∀ v' w', (Builtin.append_ #[t, t'] o.type #[xx, yy]).run P w = .ok v' w' → (execOp a.eval o).run P w = .ok (.value v') w' := fun v' w' h => by
      simp [execOp, ho, resolve, invoke, builtin, hxx, hyy, h]
    -- a new row
    have grow : ∀ (sLen sCap : Nat) (base : Option Addr) (olds : List Value) (xs : List (List AV)), xx = .slice base sLen sCap → xs.length = sLen → (∀ r, r ∈ xs → r.length = ie.size) →
        VRwl H ρ w xs.flatten olds → Ones olds → (∀ w' : World, w'.heap = w.heap → (Builtin.firstCells ie.size sLen xx).run P w' = .ok olds.toArray w') →
        sCap < sLen + ys.length → (sLen + ys.length) * ie.bytes ≤ 140737488355328 →
        ∃ v' w' ρ', (Builtin.append_ #[t, t'] o.type #[xx, yy]).run P w = .ok v' w' ∧ Rel (H.alloc ⟨ie.size, xs ++ ys⟩) ρ' w' ∧ Nx H ρ w (H.alloc ⟨ie.size, xs ++ ys⟩) ρ' w' ∧
          VRw (H.alloc ⟨ie.size, xs ++ ys⟩) ρ' w' (.own H.nx (sLen + ys.length)) v' := by
      intro sLen sCap base olds xs hxs hl hr hvl h1 hfc hlt hfit
      have hrn := run_app_grows t t' o.type e e' ie z ht ht' hi hz xx base sLen sCap hxs olds hfc yy ys.length news (n4 w rfl).1 (fun w' hw => (n4 w' hw).2) hlt hfit hb
      have hge := grownCap_ge w (sLen + ys.length) sCap e
      have hmx : grownCap w (sLen + ys.length) sCap e ≤ maxLen := grownCap_le_maxLen w _ _ _ (by
        have : sLen + ys.length ≤ 140737488355328 := Nat.le_trans (Nat.le_mul_of_pos_right _ hb) hfit
        unfold maxLen; omega)
      generalize grownCap w (sLen + ys.length) sCap e = nc at *
      have hrows : ∀ r, r ∈ xs ++ ys → r.length = ie.size := fun r h => by
        rcases List.mem_append.1 h with h | h
        · exact hr r h
        · exact n3 r h
      have hfl := flatten_len _ hrows
      have hol : olds.length = sLen * ie.size := by rw [hvl.1, flatten_len xs hr, hl]
      have hcs : (olds.toArray ++ news.toArray ++ Builtin.zeroCells z.cells (nc - (sLen + ys.length))).size = nc * ie.size := by
        simp only [Array.size_append, List.size_toArray, size_zeroCells, hol, hnl, ← hs]
        rw [← Nat.add_mul, ← Nat.add_mul]; congr 1; omega
      have htk : (olds.toArray ++ news.toArray ++ Builtin.zeroCells z.cells (nc - (sLen + ys.length))).toList.take ((xs ++ ys).length * ie.size) = olds ++ news := by
        simp only [Array.toList_append]
        rw [List.take_append_of_le_length (by simp [hol, hnl, hl, Nat.add_mul]), List.take_of_length_le (by simp [hol, hnl, hl, Nat.add_mul])]
      obtain ⟨ρ', e1, e2, e3⟩ := alloc_ok hR (w' := w.drew.alloc (.cells (olds.toArray ++ news.toArray ++ Builtin.zeroCells z.cells (nc - (sLen + ys.length))) e)) (ty := e) rfl rfl rfl rfl
        ⟨ie.size, xs ++ ys⟩ nc hcs hmx hrows (by simp [hl]; omega) (by rw [htk]; exact h1.append n2) (by rw [htk, List.flatten_append]; exact hvl.append n1)
      refine ⟨_, _, ρ', hrn, e1, e2, ?_⟩
      have := VR.own (N := (H.alloc ⟨ie.size, xs ++ ys⟩).nx) (ρ := ρ') (L := Live (H.alloc ⟨ie.size, xs ++ ys⟩) ρ')
        (w := w.drew.alloc (.cells (olds.toArray ++ news.toArray ++ Builtin.zeroCells z.cells (nc - (sLen + ys.length))) e)) H.nx (sLen + ys.length) nc (Nat.lt_succ_self _) hge (by rw [e3]; exact Nat.le_refl _)
      rw [e3] at this
      exact this
    split at hv
    · rename_i hp
      rw [hp] at hx
      have hx := hx.v_inv
      by_cases hy0 : ys = []
      · subst hy0
        have hn0 : news = [] := List.eq_nil_of_length_eq_zero (by simpa using hnl)
        subst hn0
        have hl := (n4 w rfl).1
        have hf := (n4 w rfl).2
        have : (Builtin.append_ #[t, t'] o.type #[xx, yy]).run P w = .ok (.slice none 0 0) w := by
          subst hx
          simp at hl hf
          simp [Builtin.append_, run_underlying ht, run_underlying ht', sizeOf, typeInfo, hi, hl, hf]
        rw [hrun _ _ this]
        exact Post.same hR (hv.1 rfl) (.v _)
      · obtain ⟨hfit, hv⟩ := hv.2 hy0
        have hpos : 0 < ys.length := List.length_pos_iff.2 hy0
        obtain ⟨v', w', ρ', e0, e1, e2, e3⟩ := grow 0 0 none [] [] hx rfl (fun r hr => by simp at hr) VRl.nil (fun x hx => by simp at hx) (fun w' _ => by rw [hx]; exact run_firstCells_none w' _ _ _ _) (by omega) (by simpa using hfit)
        rw [hrun _ _ e0]
        rw [Nat.zero_add, List.nil_append] at *
        exact ⟨_, _, ρ', hv, e1, e3, e2⟩
    · rename_i b n hp
      rw [hp] at hx
      split at hv
      · rename_i bx hbx
        obtain ⟨hle, hsz, hfit, hv⟩ := hv
        obtain ⟨cur, ty, hk⟩ := hR.blk b bx hbx
        have hx0 := hx
        cases hx with
        | own b n c q1 q2 q3 =>
        obtain ⟨olds, m1, m2, m3, m4⟩ := elems_ok (P := P) (sz := ie.size) (ys := bx.el.take n) hR hx0 (by simp [elems, hbx, hsz, hle])
        have htl : (bx.el.take n).length = n := by simp; omega
        rw [htl] at m4
        have hcur : bx.el.length * bx.sz ≤ cur.size := by rw [hk.size]; exact Nat.mul_le_mul_right _ hk.len
        have hol : olds.length = n * ie.size := by rw [m1.1, flatten_len _ m3, htl]
        have hols : olds = cur.toList.take (n * bx.sz) := by
          have h1 := (m4 w rfl).2
          have h2 := run_firstCells_some (P := P) w bx.sz n ⟨(ρ b).k, 0, none⟩ n c (cur.toList.take (n * bx.sz)) (by
            have : n * bx.sz ≤ bx.el.length * bx.sz := Nat.mul_le_mul_right _ hle
            simp only [List.length_take, Array.length_toList]; omega) (fun j v hv => by
            rw [addr_mk, Nat.zero_add, cell_of_row w _ _ cur ty (0, 0) hk.at_]
            rw [List.getElem?_take] at hv
            split at hv
            · simpa using hv
            · cases hv)
          rw [hsz] at h2
          rw [h1] at h2
          have h3 : olds.toArray = (cur.toList.take (n * ie.size)).toArray := by injection h2
          rw [hsz]
          simpa using congrArg Array.toList h3
        by_cases hroom : n + ys.length ≤ c
        · have hcc : c ≤ (ρ b).cap := q3
          have hfits : n * ie.size + news.length ≤ cur.size := by
            rw [hnl, hk.size, hsz, ← Nat.add_mul]; exact Nat.mul_le_mul_right _ (by omega)
          have hrn := run_app_fits t t' ty e e' ie ht ht' hi (ρ b).k n c cur hk.at_ yy ys.length news n2 (n4 w rfl).1 (n4 w rfl).2 hroom hfits o.type
          rw [hrun _ _ hrn]
          have htk : (cur.toList.take (n * ie.size) ++ news ++ cur.toList.drop (n * ie.size + news.length)).take ((bx.el.take n ++ ys).length * bx.sz) = olds ++ news := by
            rw [hols, hsz]
            rw [List.take_append_of_le_length (by
              simp only [List.length_append, htl, hnl, Nat.add_mul, List.length_take, Array.length_toList]; omega), List.take_of_length_le (by
              simp only [List.length_append, htl, hnl, Nat.add_mul, List.length_take, Array.length_toList]; omega)]
          obtain ⟨ρ', e1, e2, e3⟩ := app_ok hR hbx hk ⟨ie.size, bx.el.take n ++ ys⟩ (cur.toList.take (n * ie.size) ++ news ++ cur.toList.drop (n * ie.size + news.length)).toArray hsz.symm
            (by simp only [List.size_toArray, List.length_append, List.length_take, List.length_drop, Array.length_toList]; omega)
            (fun r h => by
              rw [hsz]
              rcases List.mem_append.1 h with h | h
              · exact m3 r h
              · exact n3 r h)
            (by simp only [List.length_append, htl]; omega)
            (by simp only; rw [htk]; exact m2.append n2) (by simp only; rw [htk, List.flatten_append]; exact m1.append n1)
          refine ⟨_, _, ρ', hv, e1, ?_, e2⟩
          have := VR.own (N := ((H.kill b).alloc ⟨ie.size, bx.el.take n ++ ys⟩).nx) (ρ := ρ') (L := Live ((H.kill b).alloc ⟨ie.size, bx.el.take n ++ ys⟩) ρ')
            (w := w.setRow (ρ b).k (cur.toList.take (n * ie.size) ++ news ++ cur.toList.drop (n * ie.size + news.length)).toArray) H.nx (n + ys.length) c (Nat.lt_succ_self _) hroom (by rw [e3]; exact q3)
          rw [e3] at this
          exact this
        · obtain ⟨v', w', ρ', e0, e1, e2, e3⟩ := grow n c _ olds (bx.el.take n) rfl htl m3 m1 m2 (fun w' hw => (m4 w' hw).2) (by omega) hfit
          rw [hrun _ _ e0]
          -- the old block is let go
          obtain ⟨k1, k2⟩ := kill_ok e1 b
          have hne : b ≠ H.nx := by omega
          have hHe : (H.alloc ⟨ie.size, bx.el.take n ++ ys⟩).kill b = (H.kill b).alloc ⟨ie.size, bx.el.take n ++ ys⟩ := by
            unfold Heap.alloc Heap.kill
            congr 1
            funext i
            by_cases h1 : i = b
            · subst h1; simp [hne]
            · simp [h1]
          rw [hHe] at k1 k2
          exact ⟨_, _, ρ', hv, k1, k2.vr e3, e2.trans k2⟩
      · exact hv.elim
    · exact hv.elim
  · exact hv.elim
end
theorem cells_of_blk {H : Heap} {ρ : Nat → Bl} {w : World} (hR : Rel H ρ w) {b : Nat} {x : Blk} (hb : H.m b = some x) :
    ∃ vs : List Value, VRwl H ρ w x.el.flatten vs ∧ (ρ b).sz = x.sz ∧ x.el.length ≤ (ρ b).cap ∧ (∀ r, r ∈ x.el → r.length = x.sz) ∧ ∀ (p : Nat) v, vs[p]? = some v → w.cell? ⟨(ρ b).k, p, none⟩ = some v ∧ v.oneCell' = true := by
  obtain ⟨cur, ty, hk⟩ := hR.blk b x hb
  refine ⟨_, hk.rel, hk.sz, hk.len, hk.rows, fun p v hv => ?_⟩
  have hv' := hv
  rw [List.getElem?_take] at hv
  split at hv
  · refine ⟨?_, hk.ones v (List.mem_of_getElem? hv')⟩
    have : cur[p]? = some v := by rw [← Array.getElem?_toList]; exact hv
    simp only [World.cell?, hk.at_, this]
    rfl
  · cases hv

theorem flatten_take_get {n sz : Nat} : ∀ {xs : List (List AV)} (_ : ∀ r, r ∈ xs → r.length = sz) {p : Nat} {a : AV}, ((xs.take n).flatten)[p]? = some a → xs.flatten[p]? = some a := by
  intro xs h p a e
  have : xs.flatten = (xs.take n).flatten ++ (xs.drop n).flatten := by rw [← List.flatten_append, List.take_append_drop]
  rw [this, List.getElem?_append_left]
  · exact e
  · exact (List.getElem?_eq_some_iff.1 e).1
theorem add_off (k o p : Nat) : Addr.add ⟨k, o, none⟩ p = ⟨k, o + p, none⟩ := by
  unfold Addr.add
  split
  · rename_i h; subst h; rfl
  · rfl
theorem add_zero_off (k p : Nat) : Addr.add ⟨k, 0, none⟩ p = ⟨k, p, none⟩ := by rw [add_off, Nat.zero_add]
/-- The blocks of bs. -/
def Of (H : Heap) (ρ : Nat → Bl) (bs : List Nat) (k : Nat) : Prop := ∃ b x, b ∈ bs ∧ H.m b = some x ∧ (ρ b).k = k
theorem of_nil (H : Heap) (ρ : Nat → Bl) (k : Nat) : ¬ Of H ρ [] k := fun ⟨_, _, h, _⟩ => by cases h

theorem bytesOf_map : ∀ {l : List (List AV)} {ns : List Int}, bytesOf l = some ns → l = ns.map fun k => [.v (.int .u8 k)]
  | [], ns, h => by simp only [bytesOf, Option.some.injEq] at h; subst h; rfl
  | r :: l, ns, h => by
    unfold bytesOf at h
    split at h
    · rename_i e; cases e
    · rename_i k l' e
      cases e
      split at h
      · rename_i ns' hn; cases h; rw [List.map_cons, ← bytesOf_map hn]
      · cases h
    · cases h
theorem flat_singles : ∀ ns : List Int, (ns.map fun k => [AV.v (.int .u8 k)]).flatten = ns.map fun k => .v (.int .u8 k)
  | [] => rfl
  | k :: ns => by rw [List.map_cons, List.flatten_cons, flat_singles ns]; rfl
theorem ok_bstr {P : Program} {K : AV → Heap → Prop} {H : Heap} {ρ : Nat → Bl} {w : World} {E : List AV} {a : Act} {o : Oper} {s d e : Nat} {x : Operand} (ho : o.op = .convert s d x) (hs : P.underlying s = some (.slice e)) (hd : P.underlying d = some .string) (he : P.underlying e = some (.int .u8))
    (hR : Rel H ρ w) (hE : VRwl H ρ w E a.tmps.toList) (hv : vcOp P (.bstr x) K H E) :
    Out P ((execOp a.eval o).run P w) (Post K H ρ w) := by
  have hx := ev_ok hE x
  simp only [vcOp] at hv
  split at hv
  · rename_i b n hp
    rw [hp] at hx
    split at hv
    · rename_i y hb
      split at hv
      · rename_i ns hn
        obtain ⟨h1, h2, hk⟩ := hv
        generalize hxv : a.eval x = xv at hx
        cases hx with
        | own b n c q1 q2 q3 =>
        obtain ⟨vs, g1, g2, g3, g4, g5⟩ := cells_of_blk hR hb
        have hm := bytesOf_map hn
        have hln : ns.length = n := by
          have := congrArg List.length hm
          rw [List.length_take, List.length_map] at this
          omega
        have hcell : ∀ i, i < n → w.cell? ⟨(ρ b).k, 0 + i, none⟩ = some (.int .u8 (ns.getD i 0)) := fun i hi => by
          have e1 : ((y.el.take n).flatten)[i]? = some (.v (.int .u8 (ns.getD i 0))) := by
            rw [hm]
            have : (ns.map fun k => [AV.v (.int .u8 k)]).flatten = ns.map fun k => .v (.int .u8 k) := by
              exact flat_singles ns
            rw [this, List.getElem?_map, List.getElem?_eq_getElem (by omega)]
            simp [List.getD, List.getElem?_eq_getElem (show i < ns.length by omega)]
          have e2 := flatten_take_get g4 e1
          obtain ⟨v, hv⟩ : ∃ v, vs[i]? = some v := ⟨_, List.getElem?_eq_getElem (by rw [g1.1]; exact (List.getElem?_eq_some_iff.1 e2).1)⟩
          have := (g1.2 i _ v e2 hv).v_inv
          subst this
          rw [Nat.zero_add]
          exact (g5 i _ hv).1
        have hrun : (execOp a.eval o).run P w = .ok (.value (.string (strOfNums ns))) w := by
          simp [execOp, ho, hxv, run_convert_bytes_arg (P := P) w s e hs he (ρ b).k 0 n c ns hln hcell d hd]
        rw [hrun]
        exact Post.same hR hk (.v _)
      · exact hv.elim
    · exact hv.elim
  · exact hv.elim
end Go.Abs
