/- Regions of operations: from the machine's own operations to ours, and that what is shown of them is so. Laws of the model alone. -/
import Derived.Test.YtbgnlnlgjmipfaaA10
namespace Go.Abs

def sameOp : Operand → Operand → Bool
  | .tmp a, .tmp b => a == b
  | .const (.int k a), .const (.int k' b) => decide (k = k') && a == b
  | _, _ => false
theorem sameOp_eq {x y : Operand} (h : sameOp x y = true) : y = x := by
  unfold sameOp at h
  split at h
  · simp at h; rw [h]
  · simp at h; rw [h.1, h.2]
  · cases h

/-- An element type's cells and zero, where they are as they should be. -/
def elemT (P : Program) (t : Nat) : Option (Nat × Nat × List Value) :=
  match P.underlying t with
  | some (.slice e) => match P.info? e with
    | some ie => match ie.zero with
      | some z => if ie.size = z.cells.size ∧ 0 < ie.size ∧ 0 < ie.bytes ∧ z.cells.toList.all (·.oneCell') = true then some (ie.size, ie.bytes, z.cells.toList) else none
      | none => none
    | none => none
  | _ => none
theorem elemT_spec {P : Program} {t s b : Nat} {zs : List Value} (h : elemT P t = some (s, b, zs)) :
    ∃ e ie z, P.underlying t = some (.slice e) ∧ P.info? e = some ie ∧ ie.zero = some z ∧ ie.size = s ∧ ie.bytes = b ∧ z.cells.toList = zs ∧ ie.size = z.cells.size ∧ 0 < ie.size ∧ 0 < ie.bytes ∧ z.cells.toList.all (·.oneCell') = true := by
  unfold elemT at h
  split at h
  · rename_i e hu
    split at h
    · rename_i ie hi
      split at h
      · rename_i z hz
        split at h
        · rename_i hc
          simp only [Option.some.injEq, Prod.mk.injEq] at h
          exact ⟨e, ie, z, hu, hi, hz, h.1, h.2.1, h.2.2, hc.1, hc.2.1, hc.2.2.1, hc.2.2.2⟩
        · cases h
      · cases h
    · cases h
  · cases h

def compB (P : Program) (b : Builtin) (args : List Operand) (ts : List Nat) : Option MOp :=
  match b, args, ts with
  | .len, [x], [t] => match P.underlying t with
    | some .string => some (.len true x)
    | some (.slice _) => some (.len false x)
    | _ => none
  | .append, [x, y], [t, t'] => match P.underlying t' with
    | some (.slice _) => match elemT P t with
      | some (s, b, _) => some (.app s b x y)
      | none => none
    | _ => none
  | .min, [x, y], _ => some (.mn x y)
  | .max, [x, y], _ => some (.mx x y)
  | _, _, _ => none

def compOp (P : Program) : Op → Option MOp
  | .move x => some (.mv x)
  | .assign x => some (.mv x)
  | .pick c a b => some (.pick c a b)
  | .unOp .not _ x => some (.not x)
  | .unOp .neg _ x => some (.neg x)
  | .binOp op t x y _ => some (.bin op (classOf P t) x y)
  | .alloc t => match P.info? t with
    | some i => match i.zero with
      | some z => if z.cells.toList.all (·.oneCell') = true then some (.alloc z.cells.toList) else none
      | none => none
    | none => none
  | .box _ x => some (.box x)
  | .build t parts => match partsOf P t parts.toList with
    | some (z, qs) => some (.build z qs)
    | none => none
  | .buildSlice t len parts => match elemT P t with
    | some (s, _, _) => match inOrder 0 parts.toList with
      | some xs => if xs.length = len ∧ len * s ≤ 16777216 then some (.lit s xs) else none
      | none => none
    | none => none
  | .load t x => match aggT P t with
    | some (agg, n) => some (.load agg n x)
    | none => none
  | .store t x y => match aggT P t with
    | some (_, n) => some (.store n x y)
    | none => none
  | .nilCheck x => some (.nilck x)
  | .fieldAddr t x k => match P.underlying t with
    | some (.struct fs) => match fs[k]? with
      | some f => match P.info? f.type with
        | some i => if i.size ≠ 0 then some (.fa f.offset x) else none
        | none => none
      | none => none
    | _ => none
  | .field t x k => match P.underlying t with
    | some (.struct fs) => match fs[k]? with
      | some f => match aggT P f.type with
        | some (agg, n) => some (.fld agg f.offset n x)
        | none => none
      | none => none
    | _ => none
  | .indexAddr t x i => match P.underlying t with
    | some (.slice e) => match P.info? e with
      | some ie => some (.ia ie.size x i)
      | none => none
    | some (.array len e) => match P.info? e with
      | some ie => some (.iaa len ie.size x i)
      | none => none
    | _ => none
  | .index t x i => match P.underlying t with
    | some .string => some (.idx x i)
    | _ => none
  | .extract x k => some (.ext x k)
  | .makeFunc fn first caps => match fn, first.toList with
    | .func f, [] => some (.mkf f caps.toList)
    | _, _ => none
  | .makeSlice t n m => if sameOp n m = true then (match elemT P t with
    | some (_, b, zs) => some (.mks zs b n)
    | none => none) else none
  | .slice t x lo hi mx => if mx.isSome then none else match P.underlying t with
    | some .string => some (.sstr x lo hi)
    | some (.slice e) => match P.info? e with
      | some ie => some (.slc ie.size x lo hi)
      | none => none
    | _ => none
  | .convert s d x => match P.underlying s, P.underlying d with
    | some (.int _), some (.int k) => some (.conv k x)
    | some (.slice e), some .string => match P.underlying e with
      | some (.int .u8) => some (.bstr x)
      | _ => none
    | _, _ => none
  | .call c => match c.callee with
    | .value f => some (.call f c.args.toList)
    | .builtin b => compB P b c.args.toList c.argTypes.toList
    | .invoke _ _ => none
  | _ => none

section
variable {P : Program} {K : AV → Heap → Prop} {H : Heap} {ρ : Nat → Bl} {w : World} {E : List AV} {a : Act} {o : Oper}

theorem op_ok {mo : MOp} (hc : compOp P o.op = some mo) (hR : Rel H ρ w) (hE : VRwl H ρ w E a.tmps.toList) (hv : vcOp P mo K H E) :
    Out P ((execOp a.eval o).run P w) (Post K H ρ w) := by
  generalize ho : o.op = op at hc
  unfold compOp at hc
  split at hc
  case h_1 x => cases hc; exact ok_mv (.inl ho) hR hE hv
  case h_2 x => cases hc; exact ok_mv (.inr ho) hR hE hv
  case h_3 c x y => cases hc; exact ok_pick ho hR hE hv
  case h_4 t x => cases hc; exact ok_not ho hR hE hv
  case h_5 t x => cases hc; exact ok_neg ho hR hE hv
  case h_6 p t x y u => cases hc; exact ok_bin ho hR hE hv
  case h_7 t =>
    split at hc
    · rename_i i hi
      split at hc
      · rename_i z hz
        split at hc
        · rename_i h1; cases hc; exact ok_alloc ho hi hz h1 hR hv
        · cases hc
      · cases hc
    · cases hc
  case h_8 t x => cases hc; exact ok_box ho hR hE hv
  case h_9 t parts =>
    split at hc
    · rename_i z qs hp; cases hc; exact ok_build ho hp hR hE hv
    · cases hc
  case h_10 t len parts =>
    split at hc
    · rename_i s b zs he
      split at hc
      · rename_i xs hx
        split at hc
        · rename_i hh
          cases hc
          obtain ⟨e, ie, z, e1, e2, e3, rfl, rfl, rfl, e4, e5, e6, e7⟩ := elemT_spec he
          exact ok_lit ho e1 e2 e3 e4 e5 e7 hx hh.1 hh.2 hR hE hv
        · cases hc
      · cases hc
    · cases hc
  case h_11 t x =>
    split at hc
    · rename_i agg n ht; cases hc; exact ok_load ho ht hR hE hv
    · cases hc
  case h_12 t x y =>
    split at hc
    · rename_i agg n ht; cases hc; exact ok_store ho ht hR hE hv
    · cases hc
  case h_13 x => cases hc; exact ok_nilck ho hR hE hv
  case h_14 t x k =>
    split at hc
    · rename_i fs hu
      split at hc
      · rename_i f hf
        split at hc
        · rename_i i hi
          split at hc
          · rename_i hs; cases hc; exact ok_fa ho hu hf hi hs hR hE hv
          · cases hc
        · cases hc
      · cases hc
    · cases hc
  case h_15 t x k =>
    split at hc
    · rename_i fs hu
      split at hc
      · rename_i f hf
        split at hc
        · rename_i agg n ht; cases hc; exact ok_fld ho hu hf ht hR hE hv
        · cases hc
      · cases hc
    · cases hc
  case h_16 t x i =>
    split at hc
    · rename_i e hu
      split at hc
      · rename_i ie hi; cases hc; exact ok_ia ho hu hi hR hE hv
      · cases hc
    · rename_i len e hu
      split at hc
      · rename_i ie hi; cases hc; exact ok_iaa ho hu hi hR hE hv
      · cases hc
    · cases hc
  case h_17 t x i =>
    split at hc
    · rename_i hu; cases hc; exact ok_idx ho hu hR hE hv
    · cases hc
  case h_18 x k => cases hc; exact ok_ext ho hR hE hv
  case h_19 fn first caps =>
    split at hc
    · rename_i f hf
      cases hc
      rw [show first = #[] from by rw [← Array.toArray_toList (xs := first), hf]] at ho
      exact ok_mkf ho hR hE hv
    · cases hc
  case h_20 t n m =>
    split at hc
    · rename_i hsame
      have := sameOp_eq hsame
      subst this
      split at hc
      · rename_i s b zs he
        cases hc
        obtain ⟨e, ie, z, e1, e2, e3, rfl, rfl, rfl, e4, e5, e6, e7⟩ := elemT_spec he
        exact ok_mks ho e1 e2 e3 e4 e6 e7 hR hE hv
      · cases hc
    · cases hc
  case h_21 t x lo hi mx =>
    split at hc
    · cases hc
    · rename_i hmx
      have : mx = none := by cases mx with | none => rfl | some _ => exact absurd rfl hmx
      subst this
      split at hc
      · rename_i hu; cases hc; exact ok_sstr ho hu hR hE hv
      · rename_i e hu
        split at hc
        · rename_i ie hi'; cases hc; exact ok_slc ho hu hi' hR hE hv
        · cases hc
      · cases hc
  case h_22 s d x =>
    split at hc
    · rename_i k' k hs hd; cases hc; exact ok_conv ho hs hd hR hE hv
    · rename_i e hs hd
      split at hc
      · rename_i he; cases hc; exact ok_bstr ho hs hd he hR hE hv
      · cases hc
    · cases hc
  case h_23 c =>
    cases c with
    | mk cal args ts =>
    have ha : args.toList.toArray = args := Array.toArray_toList (xs := args)
    have hts : ts.toList.toArray = ts := Array.toArray_toList (xs := ts)
    simp only at hc
    split at hc
    · cases hc; exact ok_call ho hR hE hv
    ·
      unfold compB at hc
      split at hc
      · rename_i x t h1 h2
        rw [h1] at ha; rw [h2] at hts
        subst ha; subst hts
        split at hc
        · rename_i hu; cases hc; exact ok_len (c := true) ho (by simpa using hu) hR hE hv
        · rename_i e hu; cases hc; exact ok_len (c := false) ho (by simpa using ⟨e, hu⟩) hR hE hv
        · cases hc
      · rename_i x y t t' h1 h2
        rw [h1] at ha; rw [h2] at hts
        subst ha; subst hts
        split at hc
        · rename_i e' hu'
          split at hc
          · rename_i s b zs he
            cases hc
            obtain ⟨e, ie, z, e1, e2, e3, rfl, rfl, rfl, e4, e5, e6, e7⟩ := elemT_spec he
            exact ok_app ho e1 hu' e2 e3 e4 e6 hR hE hv
          · cases hc
        · cases hc
      · rename_i x y _ h1
        rw [h1] at ha
        subst ha
        cases hc; exact ok_mn ho hR hE hv
      · rename_i x y _ h1
        rw [h1] at ha
        subst ha
        cases hc; exact ok_mx ho hR hE hv
      · cases hc
    · cases hc
  case h_24 => cases hc
end

/-- The state in the machine: something of ours lies so, since the function was entered. -/
def St (H0 : Heap) (ρ0 : Nat → Bl) (w0 : World) (H : Heap) (E : List AV) (a : Act) (w : World) : Prop :=
  ∃ ρ, Rel H ρ w ∧ VRwl H ρ w E a.tmps.toList ∧ Nx H0 ρ0 w0 H ρ w ∧ a.defers = []

def compG (ops : Array Oper) : Option (Nat × Bool) → Option (Option (Nat × Bool))
  | none => some none
  | some (j, b) => match (ops[j]?).bind (·.dst) with
    | some t => some (some (t, b))
    | none => none
def compO (P : Program) (ops : Array Oper) (o : Oper) : Option CO :=
  match compOp P o.op, compG ops o.guard with
  | some mo, some g => some ⟨o.dst, g, mo⟩
  | _, _ => none
def compL (P : Program) (ops : Array Oper) : List Oper → Option (List CO)
  | [] => some []
  | o :: l => match compO P ops o, compL P ops l with
    | some c, some cs => some (c :: cs)
    | _, _ => none

theorem wp_of_out {P : Program} {a : Act} {o : Oper} {w : World} {R : Value → World → Prop} {next : Act → World → Prop} {Q : Exit → Act → World → Prop}
    (h : Out P ((execOp a.eval o).run P w) R) (hk : ∀ x w', R x w' → next (a.put o.dst x) w') : o.wp P a w next Q := by
  unfold Oper.wp
  unfold Out at h
  split at h
  · rename_i hr; rw [hr]; exact hk _ _ h
  · rename_i hr; rw [hr]; exact hk _ _ h
  · rename_i f args w' hr
    rw [hr]
    exact Calls.mono h fun e w'' ⟨v, e1, e2⟩ => by subst e1; exact hk _ _ e2
  · exact h.elim

section
variable {P : Program} {H0 : Heap} {ρ0 : Nat → Bl} {w0 : World}

theorem put_defers (a : Act) (d : Option Nat) (x : Value) : (a.put d x).defers = a.defers := by cases d <;> rfl

theorem step_ok {o : Oper} {mo : MOp} {K : AV → Heap → Prop} {H : Heap} {E : List AV} {a : Act} {w : World} {next : Act → World → Prop} {Q : Exit → Act → World → Prop} (hc : compOp P o.op = some mo)
    (hs : St H0 ρ0 w0 H E a w) (hv : vcOp P mo K H E) (hk : ∀ r H' a' w', K r H' → St H0 ρ0 w0 H' (setE E o.dst r) a' w' → next a' w') : o.wp P a w next Q := by
  obtain ⟨ρ, hR, hE, hN, hd⟩ := hs
  refine wp_of_out (op_ok hc hR hE hv) fun x w' ⟨r, H', ρ', k, hR', hr, hN'⟩ => hk r H' _ _ k ⟨ρ', hR', put_ok (hN'.vrl hE) hr _, hN.trans hN', by rw [put_defers, hd]⟩

theorem skip_ok {H : Heap} {E : List AV} {a : Act} {w : World} (hs : St H0 ρ0 w0 H E a w) (d : Option Nat) (x : Value) : St H0 ρ0 w0 H (setE E d (.v x)) (a.put d x) w := by
  obtain ⟨ρ, hR, hE, hN, hd⟩ := hs
  exact ⟨ρ, hR, put_ok hE (.v x) d, hN, by rw [put_defers, hd]⟩

theorem guard_ok {ops : Array Oper} {j t : Nat} {b p : Bool} {H : Heap} {E : List AV} {a : Act} {w : World} (hg : compG ops (some (j, b)) = some (some (t, b))) (hs : St H0 ρ0 w0 H E a w) (he : ev E (.tmp t) = .v (.bool p)) :
    yielded ops a.tmps j = some p := by
  obtain ⟨ρ, hR, hE, hN, hd⟩ := hs
  simp only [compG] at hg
  split at hg
  · rename_i t' ht
    simp only [Option.some.injEq, Prod.mk.injEq, and_true] at hg
    subst hg
    have hx := ev_ok hE (.tmp t')
    rw [he] at hx
    have hx := hx.v_inv
    simp only [Act.eval] at hx
    have hlt : t' < a.tmps.size := by
      rcases Nat.lt_or_ge t' a.tmps.size with h | h
      · exact h
      · rw [Array.getD_eq_getD_getElem?, Array.getElem?_eq_none h] at hx; cases hx
    rw [Array.getD_eq_getD_getElem?, Array.getElem?_eq_getElem hlt, Option.getD_some] at hx
    simp only [yielded, ht, Option.bind_some, Array.getElem?_eq_getElem hlt, hx]
  · cases hg

theorem guard_un {ops : Array Oper} {j t : Nat} {b : Bool} {vs : Array Value} {H : Heap} {E : List AV} {a : Act} {w : World} (hg : compG ops (some (j, b)) = some (some (t, b))) (hs : St H0 ρ0 w0 H E a w) (he : ev E (.tmp t) = .v (.tuple vs)) :
    yielded ops a.tmps j = none := by
  obtain ⟨ρ, hR, hE, hN, hd⟩ := hs
  simp only [compG] at hg
  split at hg
  · rename_i t' ht
    simp only [Option.some.injEq, Prod.mk.injEq, and_true] at hg
    subst hg
    have hx := ev_ok hE (.tmp t')
    rw [he] at hx
    have hx := hx.v_inv
    simp only [Act.eval] at hx
    rw [Array.getD_eq_getD_getElem?] at hx
    simp only [yielded, ht, Option.bind_some]
    cases hq : a.tmps[t']? with
    | none => rfl
    | some y => rw [hq, Option.getD_some] at hx; subst hx; rfl
  · cases hg

theorem ops_ok {ops : Array Oper} {Q : Exit → Act → World → Prop} {K : Heap → List AV → Prop} : ∀ (l : List Oper) (cs : List CO) (H : Heap) (E : List AV) (a : Act) (w : World), compL P ops l = some cs →
    St H0 ρ0 w0 H E a w → vcOps P cs K H E → (∀ H' E' a' w', K H' E' → St H0 ρ0 w0 H' E' a' w' → Q .normal a' w') → wpList P ops Q l a w
  | [], cs, H, E, a, w, hc, hs, hv, hq => by
    simp only [compL, Option.some.injEq] at hc
    subst hc
    exact hq _ _ _ _ hv hs
  | o :: l, cs, H, E, a, w, hc, hs, hv, hq => by
    simp only [compL] at hc
    split at hc
    · rename_i c cs' hco hcl
      cases hc
      unfold compO at hco
      split at hco
      · rename_i mo g hmo hg
        cases hco
        unfold vcOps at hv
        unfold wpList
        cases hgd : o.guard with
        | none =>
          rw [hgd] at hg
          simp only [compG, Option.some.injEq] at hg
          subst hg
          rw [if_pos (by simp [Region.wanted, hgd])]
          simp only at hv
          exact .inl (step_ok hmo hs hv fun r H' a' w' k hs' => ops_ok l cs' H' _ a' w' hcl hs' k hq)
        | some jb =>
          obtain ⟨j, b⟩ := jb
          rw [hgd] at hg
          have hg0 := hg
          simp only [compG] at hg
          split at hg
          · rename_i t ht
            cases hg
            simp only at hv
            split at hv
            · rename_i p hp
              have hy := guard_ok hg0 hs hp
              by_cases hpb : p = b
              · rw [if_pos (by simp [Region.wanted, hgd, hy, hpb])]
                exact .inl (step_ok hmo hs (hv.1 hpb) fun r H' a' w' k hs' => ops_ok l cs' H' _ a' w' hcl hs' k hq)
              · rw [if_neg (by simp [Region.wanted, hgd, hy, hpb])]
                exact ops_ok l cs' H _ _ w hcl (skip_ok hs _ _) (hv.2 (by cases p <;> cases b <;> simp_all)) hq
            · rename_i vs hp
              have hy := guard_un hg0 hs hp
              rw [if_neg (by simp [Region.wanted, hgd, hy])]
              exact ops_ok l cs' H _ _ w hcl (skip_ok hs _ _) hv hq
            · exact hv.elim
          · cases hg
      · cases hco
    · cases hc
end
end Go.Abs
