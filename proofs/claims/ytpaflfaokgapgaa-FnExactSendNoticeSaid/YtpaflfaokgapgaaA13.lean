/- Regions whose order the machine draws: whatever order it draws, the states are told. Laws of the model alone. -/
import Derived.Test.YtpaflfaokgapgaaA12
namespace Go.Abs

theorem QRun.len {P : Program} {H : Heap} {l : List CO} {E rs E' : List AV} (h : QRun P H l E rs E') : E'.length = E.length := by
  induction h with
  | nil => rfl
  | go o l E r rs E' _ _ _ ih => rw [ih]; cases o.dst <;> simp [setE]
  | off o l E rs E' _ _ ih => rw [ih]; cases o.dst <;> simp [setE]

theorem setE_other {E : List AV} {d : Option Nat} {r : AV} {t : Nat} (h : d ≠ some t) : (setE E d r)[t]? = E[t]? := by
  cases d with
  | none => rfl
  | some d => simp only [setE]; rw [List.getElem?_set_ne (fun e => h (by rw [e]))]
theorem setE_same {E : List AV} {r : AV} {t : Nat} (h : t < E.length) : (setE E (some t) r)[t]? = some r := by
  simp only [setE]; rw [List.getElem?_set_self h]

theorem QRun.keeps {P : Program} {H : Heap} {l : List CO} {E rs E' : List AV} (h : QRun P H l E rs E') {t : Nat} (ht : ∀ o, o ∈ l → o.dst ≠ some t) : E'[t]? = E[t]? := by
  induction h with
  | nil => rfl
  | go o l E r rs E' _ _ _ ih => rw [ih (fun o ho => ht o (by simp [ho])), setE_other (ht o (by simp))]
  | off o l E rs E' _ _ ih => rw [ih (fun o ho => ht o (by simp [ho])), setE_other (ht o (by simp))]

theorem QRun.at_ {P : Program} {H : Heap} {l : List CO} {E rs E' : List AV} (h : QRun P H l E rs E') : ∀ (i : Nat) (o : CO), l[i]? = some o →
    ∃ r Ei, ((wants Ei o.guard = some true ∧ vcOp P o.op (fun r' H' => r' = r ∧ H' = H) H Ei) ∨ (wants Ei o.guard = some false ∧ r = .v undef)) ∧
      Ei.length = E'.length ∧ (∀ t, (∀ j o', i ≤ j → l[j]? = some o' → o'.dst ≠ some t) → E'[t]? = Ei[t]?) ∧
      (∀ t, o.dst = some t → t < E'.length → (∀ j o', i < j → l[j]? = some o' → o'.dst ≠ some t) → E'[t]? = some r) := by
  induction h with
  | nil E => intro i o h; simp at h
  | go o l E r rs E' hw hv hq ih =>
    intro i o' ho'
    cases i with
    | zero =>
      simp only [List.getElem?_cons_zero, Option.some.injEq] at ho'
      subst ho'
      have hl := hq.len
      have hl' : (setE E o.dst r).length = E.length := by cases o.dst <;> simp [setE]
      refine ⟨r, E, .inl ⟨hw, hv⟩, by rw [hl, hl'], fun t ht => ?_, fun t hd htl ht => ?_⟩
      · rw [hq.keeps (fun o' ho' => by obtain ⟨j, hj, e⟩ := List.mem_iff_getElem.1 ho'; exact ht (j + 1) o' (by omega) (by rw [← e]; simp)), setE_other (ht 0 o (by omega) rfl)]
      · rw [hq.keeps (fun o' ho' => by obtain ⟨j, hj, e⟩ := List.mem_iff_getElem.1 ho'; exact ht (j + 1) o' (by omega) (by rw [← e]; simp)), hd, setE_same (by omega)]
    | succ i =>
      simp only [List.getElem?_cons_succ] at ho'
      obtain ⟨r', Ei, h1, h2, h3, h4⟩ := ih i o' ho'
      refine ⟨r', Ei, h1, h2, fun t ht => h3 t (fun j o'' hj ho'' => ht (j + 1) o'' (by omega) (by simpa using ho'')), fun t hd htl ht => h4 t hd htl (fun j o'' hj ho'' => ht (j + 1) o'' (by omega) (by simpa using ho''))⟩
  | off o l E rs E' hw hq ih =>
    intro i o' ho'
    cases i with
    | zero =>
      simp only [List.getElem?_cons_zero, Option.some.injEq] at ho'
      subst ho'
      have hl := hq.len
      have hl' : (setE E o.dst (.v undef)).length = E.length := by cases o.dst <;> simp [setE]
      refine ⟨.v undef, E, .inr ⟨hw, rfl⟩, by rw [hl, hl'], fun t ht => ?_, fun t hd htl ht => ?_⟩
      · rw [hq.keeps (fun o' ho' => by obtain ⟨j, hj, e⟩ := List.mem_iff_getElem.1 ho'; exact ht (j + 1) o' (by omega) (by rw [← e]; simp)), setE_other (ht 0 o (by omega) rfl)]
      · rw [hq.keeps (fun o' ho' => by obtain ⟨j, hj, e⟩ := List.mem_iff_getElem.1 ho'; exact ht (j + 1) o' (by omega) (by rw [← e]; simp)), hd, setE_same (by omega)]
    | succ i =>
      simp only [List.getElem?_cons_succ] at ho'
      obtain ⟨r', Ei, h1, h2, h3, h4⟩ := ih i o' ho'
      refine ⟨r', Ei, h1, h2, fun t ht => h3 t (fun j o'' hj ho'' => ht (j + 1) o'' (by omega) (by simpa using ho'')), fun t hd htl ht => h4 t hd htl (fun j o'' hj ho'' => ht (j + 1) o'' (by omega) (by simpa using ho''))⟩

def CO.rds (c : CO) : List Nat := c.op.reads ++ (match c.guard with | some (t, _) => [t] | none => [])
def hasEdge (o : Oper) (j : Nat) : Bool := o.after.toList.any fun e => Region.binds .any e && e.on == j
def edgesOk (ops : List Oper) : Bool := (List.range ops.length).all fun i => match ops[i]? with
  | some o => o.after.toList.all fun e => !(Region.binds .any e) || decide (e.on < i)
  | none => false
def tailOk (ops : List Oper) (m : Nat) : Bool := (List.range ops.length).all fun i => decide (i < m) || match ops[i]? with
  | some o => (List.range i).all fun j => hasEdge o j
  | none => false
def quietOk (ops : List Oper) (cs : List CO) (m : Nat) : Bool := (List.range m).all fun i => match ops[i]?, cs[i]? with
  | some o, some c => (List.range m).all fun j => match cs[j]? with
    | some c' => match c'.dst with
      | some t => (j == i || !(c.dst == some t)) && (!(c.rds.contains t) || (decide (j < i) && hasEdge o j))
      | none => true
    | none => false
  | _, _ => false

theorem edge_listed {o : Oper} {j : Nat} {listed : Array Bool} (h : hasEdge o j = true) (hall : ∀ e ∈ o.after, Region.binds .any e = true → listed.getD e.on false = true) : listed.getD j false = true := by
  unfold hasEdge at h
  rw [List.any_eq_true] at h
  obtain ⟨e, he, hb⟩ := h
  simp only [Bool.and_eq_true, beq_iff_eq] at hb
  have := hall e (by simpa using he) hb.1
  rwa [hb.2] at this

theorem compL_get {P : Program} {ops : Array Oper} : ∀ {l : List Oper} {cs : List CO}, compL P ops l = some cs → cs.length = l.length ∧ ∀ (i : Nat) (o : Oper) (c : CO), l[i]? = some o → cs[i]? = some c → compO P ops o = some c
  | [], cs, h => by simp only [compL, Option.some.injEq] at h; subst h; exact ⟨rfl, fun i o c h => by simp at h⟩
  | o :: l, cs, h => by
    simp only [compL] at h
    split at h
    · rename_i c cs' h1 h2
      cases h
      obtain ⟨k1, k2⟩ := compL_get h2
      refine ⟨by simp [k1], fun i o' c' ho hc => ?_⟩
      cases i with
      | zero => simp at ho hc; subst ho; subst hc; exact h1
      | succ i => exact k2 i o' c' (by simpa using ho) (by simpa using hc)
    · cases h

theorem countP_lt {α : Type} {p q : α → Bool} : ∀ {l : List α}, (∀ x, x ∈ l → q x = true → p x = true) → (∃ x, x ∈ l ∧ p x = true ∧ q x = false) → l.countP q < l.countP p
  | [], _, ⟨x, hx, _⟩ => by simp at hx
  | a :: l, h, ⟨x, hx, hp, hq⟩ => by
    have hle : l.countP q ≤ l.countP p := List.countP_mono_left (fun x hx => h x (by simp [hx]))
    rw [List.countP_cons, List.countP_cons]
    rcases List.mem_cons.1 hx with rfl | hx'
    · rw [hp, hq]; simp; omega
    · have := countP_lt (fun x hx => h x (by simp [hx])) ⟨x, hx', hp, hq⟩
      have ha := h a (by simp)
      cases hqa : q a <;> cases hpa : p a <;> simp_all <;> omega

def unl (n : Nat) (listed : Array Bool) : Nat := (List.range n).countP fun i => !listed.getD i true
theorem unl_set {n i : Nat} {listed : Array Bool} (hs : listed.size = n) (hi : i < n) (hu : listed.getD i true = false) : unl n (listed.setIfInBounds i true) < unl n listed := by
  refine countP_lt (fun x _ hq => ?_) ⟨i, List.mem_range.2 hi, by simp [hu], ?_⟩
  · by_cases e : i = x
    · subst e; rw [hu]; rfl
    · rwa [getD_set_ne true e] at hq
  · rw [Array.getD_eq_getD_getElem?, Array.getElem?_setIfInBounds_self_of_lt (by omega)]; rfl
theorem unl_zero {n : Nat} {listed : Array Bool} (h : unl n listed = 0) (i : Nat) (hi : i < n) : listed.getD i true = true := by
  have := List.countP_eq_zero.1 h i (List.mem_range.2 hi)
  simpa using this
end Go.Abs
