/- What a law is handed, as abstract values. Laws of the model alone. -/
import Derived.Test.YtbgnlnlgjmipfaaA17
import Derived.Deep.Slices
import Derived.OpenShut
import Derived.Below
namespace Go.Abs
open Go.ChangeShapes Go.WideShapes Go.Deep

/-- The kinds of a type's cells. -/
inductive LK where
  | int (k : IntKind)
  | str
  | bool
  | sl (ks : List LK)
def fieldKinds (P : Program) (kf : TypeId → Option (List LK)) : Nat → List Field → Option (List LK)
  | _, [] => some []
  | off, f :: fs => match kf f.type, fieldKinds P kf (off + P.cellsOf f.type) fs with
    | some a, some b => if f.offset = off ∧ a.length = P.cellsOf f.type then some (a ++ b) else none
    | _, _ => none
def kinds (P : Program) : Nat → TypeId → Option (List LK)
  | 0, _ => none
  | n + 1, t => match P.underlying t with
    | some (.int k) => some [.int k]
    | some .string => some [.str]
    | some .bool => some [.bool]
    | some (.slice e) => match kinds P n e with
      | some ks => if ks.length = P.cellsOf e then some [.sl ks] else none
      | none => none
    | some (.struct fs) => match fieldKinds P (fun u => kinds P n u) 0 fs.toList with
      | some ks => if ks.length = P.cellsOf t then some ks else none
      | none => none
    | _ => none
inductive LeafOk : LK → AV → Prop where
  | int (k : IntKind) (n : Int) : (Lit.int k n).wf = true → LeafOk (.int k) (.v (.int k n))
  | str (s : ByteArray) : s.size ≤ maxLen → LeafOk .str (.v (.string s))
  | bool (b : Bool) : LeafOk .bool (.v (.bool b))
  | sl (ks : List LK) (rows : List (List AV)) : rows.length ≤ maxLen → (∀ r, r ∈ rows → r.length = ks.length) → (∀ r, r ∈ rows → ∀ (i : Nat) k a, ks[i]? = some k → r[i]? = some a → LeafOk k a) → LeafOk (.sl ks) (.ro ks.length rows)
def RowOk (ks : List LK) (avs : List AV) : Prop := avs.length = ks.length ∧ ∀ (i : Nat) k a, ks[i]? = some k → avs[i]? = some a → LeafOk k a

theorem flat_get {α : Type} {sz : Nat} : ∀ {xs : List (List α)} (_ : ∀ r, r ∈ xs → r.length = sz) {p : Nat} {x : α}, xs.flatten[p]? = some x → ∃ r, xs[p / sz]? = some r ∧ r[p % sz]? = some x
  | [], _, p, x, h => by simp at h
  | r :: xs, hr, p, x, h => by
    have h0 := hr r (List.mem_cons_self ..)
    rw [List.flatten_cons] at h
    by_cases hp : p < sz
    · rw [List.getElem?_append_left (by omega)] at h
      exact ⟨r, by rw [Nat.div_eq_of_lt hp]; rfl, by rw [Nat.mod_eq_of_lt hp]; exact h⟩
    · rw [List.getElem?_append_right (by omega), h0] at h
      obtain ⟨r', h1, h2⟩ := flat_get (fun r hm => hr r (List.mem_cons_of_mem _ hm)) h
      have hsz : 0 < sz := by
        rcases Nat.eq_zero_or_pos sz with rfl | h'
        · have hlt := (List.getElem?_eq_some_iff.1 h2).1
          have := hr r' (List.mem_cons_of_mem _ (List.mem_of_getElem? h1))
          omega
        · exact h'
      refine ⟨r', ?_, ?_⟩
      · rw [Nat.div_eq_sub_div hsz (by omega), List.getElem?_cons_succ]; exact h1
      · rw [Nat.mod_eq_sub_mod (by omega)]; exact h2

section
variable {H : Type} {enc : TypeId × Value → H} {P : Program} {w : World} {N : Nat} {ρ : Nat → Bl} {L : Nat → Prop}

theorem ro_of (hL : ∀ k, ¬ L k) {ks : List LK} {a : Addr} {len cap : Nat} {C : Nat → List Value} {A : Nat → List AV} (hc : len ≤ cap) (hm : len ≤ maxLen)
    (hC : ∀ i, i < len → (C i).length = ks.length ∧ (∀ j x, (C i)[j]? = some x → w.cell? (a.add (i * ks.length + j)) = some x) ∧ RowOk ks (A i) ∧ VRl N ρ L w (A i) (C i) ∧ Ones (C i)) :
    ∃ rows, LeafOk (.sl ks) (.ro ks.length rows) ∧ rows.length = len ∧ VR N ρ L w (.ro ks.length rows) (.slice (some a) len cap) := by
  have hl : ∀ r, r ∈ (List.range len).map A → r.length = ks.length := fun r hr => by
    obtain ⟨i, hi, rfl⟩ := List.mem_map.1 hr
    exact (hC i (List.mem_range.1 hi)).2.2.1.1
  have hlC : ∀ r, r ∈ (List.range len).map C → r.length = ks.length := fun r hr => by
    obtain ⟨i, hi, rfl⟩ := List.mem_map.1 hr
    exact (hC i (List.mem_range.1 hi)).1
  have hlen : ((List.range len).map A).length = len := by simp
  refine ⟨(List.range len).map A, .sl ks _ (by rw [hlen]; exact hm) hl fun r hr => ?_, hlen, ?_⟩
  · obtain ⟨i, hi, rfl⟩ := List.mem_map.1 hr
    exact (hC i (List.mem_range.1 hi)).2.2.1.2
  have hg : ∀ {p : Nat} {x : Value}, ((List.range len).map C).flatten[p]? = some x → p / ks.length < len ∧ (C (p / ks.length))[p % ks.length]? = some x := fun {p x} h => by
    obtain ⟨r, h1, h2⟩ := flat_get hlC h
    have hi : p / ks.length < len := by have := (List.getElem?_eq_some_iff.1 h1).1; simpa using this
    rw [List.getElem?_map, List.getElem?_range hi] at h1
    simp only [Option.map_some, Option.some.injEq] at h1
    subst h1
    exact ⟨hi, h2⟩
  have := VR.ro (N := N) (ρ := ρ) (L := L) (w := w) ks.length ((List.range len).map A) (some a) cap ((List.range len).map C).flatten hl (by rw [hlen]; exact hc) ?_ (fun _ => ⟨a, rfl, ?_⟩) ?_
  · rw [hlen] at this; exact this
  · rw [flatten_len _ hl, flatten_len _ hlC]; simp
  · intro p x hp
    obtain ⟨hi, h2⟩ := hg hp
    obtain ⟨_, q2, _, _, q5⟩ := hC _ hi
    have := q2 _ x h2
    rw [Nat.mul_comm, Nat.div_add_mod] at this
    exact ⟨this, q5 x (List.mem_of_getElem? h2), hL _⟩
  · intro p av x e1 e2
    obtain ⟨hi, h2⟩ := hg e2
    obtain ⟨r, h3, h4⟩ := flat_get hl e1
    rw [List.getElem?_map, List.getElem?_range hi] at h3
    simp only [Option.map_some, Option.some.injEq] at h3
    subst h3
    exact (hC _ hi).2.2.2.1.2 _ av x h4 h2

theorem open_fields (kf : TypeId → Option (List LK)) {cs : List Value} (hk : ∀ t ks, kf t = some ks → ∀ fuel cs x, DataW.trod enc P w 0 (fun _ => true) true fuel t cs = some x → ∃ avs, RowOk ks avs ∧ VRl N ρ L w avs cs ∧ Ones cs) :
    ∀ (fs : List Field) (off : Nat) (ks : List LK), fieldKinds P kf off fs = some ks → (∀ f, f ∈ fs → ∃ fuel x, DataW.trod enc P w 0 (fun _ => true) true fuel f.type ((cs.drop f.offset).take (P.cellsOf f.type)) = some x) → cs.length = off + ks.length →
      ∃ avs, RowOk ks avs ∧ VRl N ρ L w avs (cs.drop off) ∧ Ones (cs.drop off)
  | [], off, ks, h, _, hl => by
    simp only [fieldKinds, Option.some.injEq] at h
    subst h
    have : cs.drop off = [] := List.drop_eq_nil_of_le (by simp at hl; omega)
    rw [this]
    exact ⟨[], ⟨rfl, fun i k a h => by simp at h⟩, VRl.nil, fun x hx => by cases hx⟩
  | f :: fs, off, ks, h, ht, hl => by
    simp only [fieldKinds] at h
    split at h
    · rename_i a b ha hb
      split at h
      · rename_i hc
        cases h
        obtain ⟨ho, hlen⟩ := hc
        rw [List.length_append] at hl
        obtain ⟨fuel, x, hx⟩ := ht f (List.mem_cons_self ..)
        rw [ho] at hx
        obtain ⟨av1, r1, v1, o1⟩ := hk f.type a ha fuel _ x hx
        obtain ⟨av2, r2, v2, o2⟩ := open_fields kf hk fs (off + P.cellsOf f.type) b hb (fun f' hf' => ht f' (List.mem_cons_of_mem _ hf')) (by omega)
        have e : cs.drop off = (cs.drop off).take (P.cellsOf f.type) ++ cs.drop (off + P.cellsOf f.type) := by
          rw [← List.drop_drop, List.take_append_drop]
        rw [e]
        refine ⟨av1 ++ av2, ⟨by rw [List.length_append, List.length_append, r1.1, r2.1], fun i k a' h1 h2 => ?_⟩, v1.append v2, fun x hx => (List.mem_append.1 hx).elim (o1 x) (o2 x)⟩
        by_cases hi : i < a.length
        · rw [List.getElem?_append_left hi] at h1
          rw [List.getElem?_append_left (by rw [r1.1]; exact hi)] at h2
          exact r1.2 i k a' h1 h2
        · rw [List.getElem?_append_right (by omega)] at h1
          rw [List.getElem?_append_right (by rw [r1.1]; omega), r1.1] at h2
          exact r2.2 _ k a' h1 h2
      · cases h
    · cases h

theorem rowok_one {k : LK} {a : AV} (h : LeafOk k a) : RowOk [k] [a] := ⟨rfl, fun i k' a' h1 h2 => by
  cases i with
  | zero => simp only [List.getElem?_cons_zero, Option.some.injEq] at h1 h2; subst h1; subst h2; exact h
  | succ i => simp at h1⟩
theorem ones_one {v : Value} (h : v.oneCell' = true) : Ones [v] := fun x hx => by rw [List.mem_singleton.1 hx]; exact h

theorem open_kinds (hL : ∀ k, ¬ L k) : ∀ (fl : Nat) (t : TypeId) (ks : List LK), kinds P fl t = some ks → ∀ (fuel : Nat) (cs : List Value) (x : DataW H × List MemPlace), DataW.trod enc P w 0 (fun _ => true) true fuel t cs = some x →
    ∃ avs, RowOk ks avs ∧ VRl N ρ L w avs cs ∧ Ones cs
  | 0, _, _, h, _, _, _, _ => by cases h
  | n + 1, t, ks, h, fuel, cs, x, ht => by
    simp only [kinds] at h
    split at h
    · rename_i k hu
      cases h
      obtain ⟨m, rfl, _, hw⟩ := DataW.trod_int hu ht
      exact ⟨[.v (.int k m)], rowok_one (.int k m hw), VRl.one (.v _), ones_one rfl⟩
    · rename_i hu
      cases h
      obtain ⟨s, rfl, _, hw⟩ := DataW.trod_string hu ht
      exact ⟨[.v (.string s)], rowok_one (.str s hw), VRl.one (.v _), ones_one rfl⟩
    · rename_i hu
      cases h
      obtain ⟨b, rfl, _⟩ := DataW.trod_bool hu ht
      exact ⟨[.v (.bool b)], rowok_one (.bool b), VRl.one (.v _), ones_one rfl⟩
    · rename_i e hu
      split at h
      · rename_i ks' hks
        split at h
        · rename_i hlen
          cases h
          rcases open_slice hu ht with ⟨rfl, _⟩ | ⟨a, len, cap, m, n', D, Pl, rfl, _, hl, hm, hmm, _, hx⟩
          · refine ⟨[.ro ks'.length []], rowok_one (.sl ks' [] (Nat.zero_le _) (fun r hr => by cases hr) (fun r hr => by cases hr)), VRl.one ?_, ones_one rfl⟩
            exact VR.ro (N := N) (ρ := ρ) (L := L) (w := w) ks'.length [] none 0 [] (fun r hr => by cases hr) (Nat.le_refl _) rfl (fun h => absurd rfl h) (fun p av x h1 _ => by simp at h1)
          · rw [if_pos rfl] at hmm
            subst hmm
            have key : ∀ i, i < len → ∃ z : List Value × List AV, z.1.length = ks'.length ∧ (∀ j x, z.1[j]? = some x → w.cell? (a.add (i * ks'.length + j)) = some x) ∧ RowOk ks' z.2 ∧ VRl N ρ L w z.2 z.1 ∧ Ones z.1 := fun i hi => by
              obtain ⟨cs', h1, h2⟩ := hx i (by omega)
              obtain ⟨avs, r1, r2, r3⟩ := open_kinds hL n e ks' hks n' cs' _ h2
              obtain ⟨_, q2, q3⟩ := World.cells?_some h1
              refine ⟨(cs', avs), by rw [q2, hlen], fun j x hj => ?_, r1, r2, r3⟩
              have hjl := (List.getElem?_eq_some_iff.1 hj).1
              have := q3 j (by rw [← q2]; exact hjl)
              rw [add_add] at this
              rw [hlen, this]
              exact hj
            obtain ⟨Z, hZ⟩ := choose_lt (α := List Value × List AV) key
            obtain ⟨rows, g1, g2, g3⟩ := ro_of (ρ := ρ) (N := N) (C := fun i => (Z i).1) (A := fun i => (Z i).2) hL hl (Nat.le_trans hl hm) hZ
            exact ⟨[_], rowok_one g1, VRl.one g3, ones_one rfl⟩
        · cases h
      · cases h
    · rename_i fs hu
      split at h
      · rename_i ks' hks
        split at h
        · rename_i hlen
          cases h
          obtain ⟨xs, m, rfl, _, hcl, hxl, hf⟩ := DataW.trod_struct hu ht
          have := open_fields (cs := cs) (N := N) (ρ := ρ) (L := L) (enc := enc) (w := w) (P := P) (fun u => kinds P n u) (fun t ks h fuel cs x ht => open_kinds hL n t ks h fuel cs x ht) fs.toList 0 _ hks (fun f hf' => by
            obtain ⟨i, hi, rfl⟩ := List.getElem_of_mem hf'
            have hi' : i < fs.size := by simpa using hi
            have := hf i fs[i] (Array.getElem?_eq_getElem hi')
            rw [List.getElem?_eq_getElem (by rw [hxl]; exact hi')] at this
            exact ⟨m, xs[i]'(by rw [hxl]; exact hi'), by simpa using this⟩) (by rw [hcl, hlen]; omega)
          simpa using this
        · cases h
      · cases h
    · cases h

/-- An argument of one cell. -/
theorem open_one (hL : ∀ k, ¬ L k) {fl : Nat} {t : TypeId} {k : LK} (hk : kinds P fl t = some [k]) {v : Value} (hv : v.cells = #[v]) {d : DataW H} {ps : List MemPlace} (h : DataW.Trod enc P w 0 (fun _ => true) true t v d ps) :
    ∃ av, LeafOk k av ∧ VR N ρ L w av v := by
  obtain ⟨fuel, hf⟩ := h
  rw [hv] at hf
  obtain ⟨avs, h1, h2, _⟩ := open_kinds (N := N) (ρ := ρ) hL fl t _ hk fuel _ _ hf
  match avs, h1, h2 with
  | [a], h1, h2 => exact ⟨a, h1.2 0 k a rfl rfl, h2.2 0 a v rfl rfl⟩
/-- A struct by value. -/
theorem open_agg (hL : ∀ k, ¬ L k) {fl : Nat} {t : TypeId} {ks : List LK} (hk : kinds P fl t = some ks) {cs : Array Value} {d : DataW H} {ps : List MemPlace} (h : DataW.Trod enc P w 0 (fun _ => true) true t (.agg cs) d ps) :
    ∃ avs, RowOk ks avs ∧ VR N ρ L w (.agg avs) (.agg cs) := by
  obtain ⟨fuel, hf⟩ := h
  obtain ⟨avs, h1, h2, h3⟩ := open_kinds (N := N) (ρ := ρ) hL fl t _ hk fuel _ _ hf
  have h2' : VRl N ρ L w avs cs.toList := h2
  have := VR.agg (N := N) (ρ := ρ) (L := L) (w := w) avs cs.toList h2'.1 h3 h2'.2
  exact ⟨avs, h1, this⟩
end

/-- From a contract to what a row wants. -/
theorem Runs.calls {P : Program} {f : Nat} {fn : Func} (hf : P.funcs[f]? = some fn) (hb : fn.body.isSome = true) (hn : (fn.name == "runtime.NumGoroutine") = false) {as : List AV} {x : Value}
    (h : Runs P f as (emp 0) fun r H' => r = .v x ∧ H' = emp 0) {ρ : Nat → Bl} {w : World} {vs : List Value} (hv : VRwl (emp 0) ρ w as vs) :
    Calls P f vs.toArray w fun e w' => e = .returned x ∧ RowKit.Below w.heap.size w w' := by
  obtain ⟨c, hc⟩ := Option.isSome_iff_exists.1 hb
  have hu := h.use (rel_emp 0 ρ w) hv
  have hcf : (callFunc f vs.toArray).run P w = .ok (.enter f vs.toArray) w := by
    simp only [callFunc, Sem.run_bind, run_program, Result.andThen_ok, hf, hn, hc]
    rfl
  rw [hcf] at hu
  refine Calls.mono hu ?_
  rintro e w' ⟨v, rfl, r, H', ρ', ⟨rfl, rfl⟩, _, hr, hN⟩
  refine ⟨by rw [hr.v_inv], hN.os, hN.tape, hN.output, hN.size, fun k hk => hN.heap k hk (live_emp _ _ _)⟩
end Go.Abs
