/- Regions whose order the machine draws: operations that change nothing of ours, in any order; behind them such as wait for all. Laws of the model alone. -/
import Derived.Test.YtbgnlnlgjmipfaaA11
import Derived.Still
namespace Go.Abs

def rd1 : Operand → List Nat
  | .tmp t => [t]
  | _ => []
def rdo : Option Operand → List Nat
  | some x => rd1 x
  | none => []
def MOp.reads : MOp → List Nat
  | .mv x | .not x | .neg x | .box x | .load _ _ x | .nilck x | .fa _ x | .fld _ _ _ x | .ext x _ | .mks _ _ x | .conv _ x | .bstr x | .len _ x => rd1 x
  | .pick c a b => rd1 c ++ rd1 a ++ rd1 b
  | .bin _ _ x y | .store _ x y | .ia _ x y | .iaa _ _ x y | .idx x y | .app _ _ x y | .mn x y | .mx x y => rd1 x ++ rd1 y
  | .alloc _ => []
  | .build _ parts => parts.flatMap fun p => rd1 p.2.2
  | .lit _ parts => parts.flatMap rd1
  | .mkf _ caps => caps.flatMap rd1
  | .slc _ x lo hi | .sstr x lo hi => rd1 x ++ rdo lo ++ rdo hi
  | .call f args => rd1 f ++ args.flatMap rd1

section
variable {P : Program} {E E' : List AV}
def Agree (E E' : List AV) (l : List Nat) : Prop := ∀ t, t ∈ l → E.getD t .any = E'.getD t .any
theorem Agree.ev {x : Operand} (h : Agree E E' (rd1 x)) : Abs.ev E x = Abs.ev E' x := by
  cases x <;> first | rfl | exact h _ (by simp [rd1])
theorem Agree.left {l m : List Nat} (h : Agree E E' (l ++ m)) : Agree E E' l := fun t ht => h t (List.mem_append_left _ ht)
theorem Agree.right {l m : List Nat} (h : Agree E E' (l ++ m)) : Agree E E' m := fun t ht => h t (List.mem_append_right _ ht)
theorem Agree.bound {x : Option Operand} (h : Agree E E' (rdo x)) (d : Int) : Abs.bound E d x = Abs.bound E' d x := by
  cases x with
  | none => rfl
  | some x => simp only [Abs.bound]; rw [Agree.ev (x := x) h]
theorem Agree.map {l : List Operand} (h : Agree E E' (l.flatMap rd1)) : ∀ x, x ∈ l → Abs.ev E x = Abs.ev E' x := fun x hx =>
  Agree.ev fun t ht => h t (List.mem_flatMap.2 ⟨x, hx, ht⟩)
theorem Agree.fill {l : List (Nat × Nat × Operand)} (h : Agree E E' (l.flatMap fun p => rd1 p.2.2)) : ∀ cs, fillA E l cs = fillA E' l cs := by
  induction l with
  | nil => intro cs; rfl
  | cons p l ih =>
    intro cs
    obtain ⟨off, n, x⟩ := p
    have hx : Abs.ev E x = Abs.ev E' x := Agree.ev fun t ht => h t (by simp [ht])
    have hl : Agree E E' (l.flatMap fun p => rd1 p.2.2) := fun t ht => h t (by simp only [List.flatMap_cons]; exact List.mem_append_right _ ht)
    simp only [fillA, hx, ih hl]

theorem vcOp_congr {K : AV → Heap → Prop} {H : Heap} (op : MOp) (h : Agree E E' op.reads) : vcOp P op K H E = vcOp P op K H E' := by
  cases op with
  | mv x => simp only [vcOp, Agree.ev (x := x) h]
  | pick c a b => simp only [vcOp, Agree.ev (x := c) h.left.left, Agree.ev (x := a) h.left.right, Agree.ev (x := b) h.right]
  | not x => simp only [vcOp, Agree.ev (x := x) h]
  | neg x => simp only [vcOp, Agree.ev (x := x) h]
  | bin op c x y => simp only [vcOp, Agree.ev (x := x) h.left, Agree.ev (x := y) h.right]
  | alloc z => rfl
  | box x => simp only [vcOp, Agree.ev (x := x) h]
  | build z ps => simp only [vcOp, Agree.fill h]
  | lit s ps =>
    have e := Agree.map h
    have e1 : (ps.map fun x => cellsOf (Abs.ev E x)) = ps.map fun x => cellsOf (Abs.ev E' x) := List.map_congr_left fun x hx => by rw [e x hx]
    have e2 : (ps.all fun x => storable (Abs.ev E x) && (cellsOf (Abs.ev E x)).length == s) = ps.all fun x => storable (Abs.ev E' x) && (cellsOf (Abs.ev E' x)).length == s := by
      rw [Bool.eq_iff_iff, List.all_eq_true, List.all_eq_true]
      exact ⟨fun k x hx => by rw [← e x hx]; exact k x hx, fun k x hx => by rw [e x hx]; exact k x hx⟩
    simp only [vcOp, e1, e2]
  | load g n x => simp only [vcOp, Agree.ev (x := x) h]
  | store n x y => simp only [vcOp, Agree.ev (x := x) h.left, Agree.ev (x := y) h.right]
  | nilck x => simp only [vcOp, Agree.ev (x := x) h]
  | fa n x => simp only [vcOp, Agree.ev (x := x) h]
  | fld g n m x => simp only [vcOp, Agree.ev (x := x) h]
  | ia n x y => simp only [vcOp, Agree.ev (x := x) h.left, Agree.ev (x := y) h.right]
  | iaa l n x y => simp only [vcOp, Agree.ev (x := x) h.left, Agree.ev (x := y) h.right]
  | idx x y => simp only [vcOp, Agree.ev (x := x) h.left, Agree.ev (x := y) h.right]
  | ext x k => simp only [vcOp, Agree.ev (x := x) h]
  | mkf f cs =>
    have e := Agree.map h
    have e1 : cs.map (Abs.ev E) = cs.map (Abs.ev E') := List.map_congr_left e
    simp only [vcOp, e1]
  | mks z b n => simp only [vcOp, Agree.ev (x := n) h]
  | slc s x lo hi => simp only [vcOp, Agree.ev (x := x) h.left.left, Agree.bound (x := lo) h.left.right, Agree.bound (x := hi) h.right]
  | sstr x lo hi => simp only [vcOp, Agree.ev (x := x) h.left.left, Agree.bound (x := lo) h.left.right, Agree.bound (x := hi) h.right]
  | conv k x => simp only [vcOp, Agree.ev (x := x) h]
  | bstr x => simp only [vcOp, Agree.ev (x := x) h]
  | len c x => simp only [vcOp, Agree.ev (x := x) h]
  | app s b x y => simp only [vcOp, Agree.ev (x := x) h.left, Agree.ev (x := y) h.right]
  | mn x y => simp only [vcOp, Agree.ev (x := x) h.left, Agree.ev (x := y) h.right]
  | mx x y => simp only [vcOp, Agree.ev (x := x) h.left, Agree.ev (x := y) h.right]
  | call f args =>
    have e1 : args.map (Abs.ev E) = args.map (Abs.ev E') := List.map_congr_left (Agree.map h.right)
    simp only [vcOp, Agree.ev (x := f) h.left, e1]
end

theorem vcBin_mono {op : BinOp} {c : Nat} {K K' : Value → Prop} (h : ∀ r, K r → K' r) {x y : AV} (hv : vcBin op c K x y) : vcBin op c K' x y := by
  unfold vcBin at *
  split at hv
  · refine ⟨hv.1, ?_⟩
    replace hv := hv.2
    cases op <;> first | exact h _ hv | exact ⟨hv.1, h _ hv.2⟩ | exact hv
  · cases op <;> first | exact h _ hv | exact ⟨hv.1, h _ hv.2⟩ | exact hv
  · refine ⟨hv.1, ?_⟩
    replace hv := hv.2
    cases op <;> first | exact h _ hv | exact hv
  · refine ⟨hv.1, ?_⟩
    replace hv := hv.2
    cases op <;> first | exact h _ hv | exact hv
  · refine ⟨hv.1, ?_⟩
    replace hv := hv.2
    cases op <;> first | exact h _ hv | exact hv
  · exact hv

theorem vcOp_mono {P : Program} {K K' : AV → Heap → Prop} {H : Heap} {E : List AV} (op : MOp) (h : ∀ r H', K r H' → K' r H') (hv : vcOp P op K H E) : vcOp P op K' H E := by
  cases op
  case bin op c x y => exact vcBin_mono (fun r => h _ _) hv
  case call f args =>
    simp only [vcOp] at hv ⊢
    split at hv
    · obtain ⟨Q, h1, h2⟩ := hv; exact ⟨Q, h1, fun r H' hq => h _ _ (h2 r H' hq)⟩
    · exact hv
  all_goals
    revert hv
    simp only [vcOp]
    repeat' split
    all_goals first
      | exact id
      | exact h _ _
      | exact fun hv => ⟨hv.1, h _ _ hv.2⟩
      | exact fun hv => ⟨hv.1, hv.2.1, h _ _ hv.2.2⟩
      | exact fun hv => ⟨hv.1, hv.2.1, hv.2.2.1, h _ _ hv.2.2.2⟩
      | exact fun hv => ⟨hv.1, hv.2.1, hv.2.2.1, hv.2.2.2.1, h _ _ hv.2.2.2.2⟩
      | exact fun hv => ⟨fun e => h _ _ (hv.1 e), fun e => ⟨(hv.2 e).1, h _ _ (hv.2 e).2⟩⟩

/-- What is to be shown of operations that change nothing of ours, in the order of the text. -/
def vcQ (P : Program) (H : Heap) : List CO → (List AV → Prop) → List AV → Prop
  | [], K, E => K E
  | o :: l, K, E => match o.guard with
    | none => ∃ r, vcOp P o.op (fun r' H' => r' = r ∧ H' = H) H E ∧ vcQ P H l K (setE E o.dst r)
    | some (t, want) => match ev E (.tmp t) with
      | .v (.bool p) => (p = want → ∃ r, vcOp P o.op (fun r' H' => r' = r ∧ H' = H) H E ∧ vcQ P H l K (setE E o.dst r)) ∧ (p = !want → vcQ P H l K (setE E o.dst (.v undef)))
      | .v (.tuple _) => vcQ P H l K (setE E o.dst (.v undef))
      | _ => False

def wants (E : List AV) : Option (Nat × Bool) → Option Bool
  | none => some true
  | some (t, want) => match ev E (.tmp t) with
    | .v (.bool p) => some (p == want)
    | .v (.tuple _) => some false
    | _ => none

/-- How it went. -/
inductive QRun (P : Program) (H : Heap) : List CO → List AV → List AV → List AV → Prop where
  | nil (E : List AV) : QRun P H [] E [] E
  | go (o : CO) (l : List CO) (E : List AV) (r : AV) (rs : List AV) (E' : List AV) : wants E o.guard = some true → vcOp P o.op (fun r' H' => r' = r ∧ H' = H) H E →
      QRun P H l (setE E o.dst r) rs E' → QRun P H (o :: l) E (r :: rs) E'
  | off (o : CO) (l : List CO) (E : List AV) (rs : List AV) (E' : List AV) : wants E o.guard = some false → QRun P H l (setE E o.dst (.v undef)) rs E' → QRun P H (o :: l) E (.v undef :: rs) E'

theorem qrun {P : Program} {H : Heap} {K : List AV → Prop} : ∀ (l : List CO) (E : List AV), vcQ P H l K E → ∃ rs E', QRun P H l E rs E' ∧ K E'
  | [], E, h => ⟨[], E, .nil E, h⟩
  | o :: l, E, h => by
    unfold vcQ at h
    split at h
    · rename_i hg
      obtain ⟨r, h1, h2⟩ := h
      obtain ⟨rs, E', h3, h4⟩ := qrun l _ h2
      exact ⟨_, E', .go o l E r rs E' (by rw [hg]; rfl) h1 h3, h4⟩
    · rename_i t want hg
      split at h
      · rename_i p hp
        by_cases hpw : p = want
        · obtain ⟨r, h1, h2⟩ := h.1 hpw
          obtain ⟨rs, E', h3, h4⟩ := qrun l _ h2
          exact ⟨_, E', .go o l E r rs E' (by rw [hg]; simp [wants, hp, hpw]) h1 h3, h4⟩
        · obtain ⟨rs, E', h3, h4⟩ := qrun l _ (h.2 (by cases p <;> cases want <;> simp_all))
          exact ⟨_, E', .off o l E rs E' (by rw [hg]; simp [wants, hp]; simpa using hpw) h3, h4⟩
      · rename_i vs hp
        obtain ⟨rs, E', h3, h4⟩ := qrun l _ h
        exact ⟨_, E', .off o l E rs E' (by rw [hg]; simp [wants, hp]) h3, h4⟩
      · exact h.elim
end Go.Abs
