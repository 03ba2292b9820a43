/- Operations on abstract states: that what is shown of each is so (first part). Laws of the model alone. -/
import Derived.Test.YtbgnlnlgjmipfaaA3
namespace Go.Abs

theorem Post.same {K : AV → Heap → Prop} {H : Heap} {ρ : Nat → Bl} {w : World} {r : AV} {x : Value} (hR : Rel H ρ w) (hk : K r H) (hv : VRw H ρ w r x) : Post K H ρ w x w :=
  ⟨r, H, ρ, hk, hR, hv, Nx.refl _ _ _⟩

section
variable {P : Program} {K : AV → Heap → Prop} {H : Heap} {ρ : Nat → Bl} {w : World} {E : List AV} {a : Act} {o : Oper}

theorem ev_ok (hE : VRwl H ρ w E a.tmps.toList) (x : Operand) : VRw H ρ w (ev E x) (a.eval x) := by
  cases x with
  | const x => exact .v x
  | global g => exact .any _
  | func f => exact .fn f [] [] rfl (fun p av x h => by simp at h)
  | tmp t =>
    simp only [ev, Act.eval]
    by_cases ht : t < E.length
    · have hl := hE.1
      have ht' : t < a.tmps.size := by rw [← Array.length_toList, hl]; exact ht
      refine hE.2 t _ _ ?_ ?_
      · simp [List.getD, List.getElem?_eq_getElem ht]
      · simp [Array.getD, ht']
    · rw [List.getD_eq_getElem?_getD, List.getElem?_eq_none (Nat.le_of_not_lt ht)]
      exact .any _

theorem VR.v_inv {N : Nat} {L : Nat → Prop} {x y : Value} (h : VR N ρ L w (.v x) y) : y = x := by cases h; rfl

theorem put_ok (hE : VRwl H ρ w E a.tmps.toList) {r : AV} {x : Value} (hv : VRw H ρ w r x) (d : Option Nat) : VRwl H ρ w (setE E d r) (a.put d x).tmps.toList := by
  cases d with
  | none => exact hE
  | some d =>
    refine ⟨by simpa [setE, Act.put] using hE.1, fun p av y h1 h2 => ?_⟩
    simp only [setE, Act.put, List.getElem?_set, Array.toList_setIfInBounds] at h1 h2
    by_cases e : d = p
    · subst e
      rw [if_pos rfl] at h1 h2
      split at h1
      · split at h2
        · cases h1; cases h2; exact hv
        · cases h2
      · cases h1
    · rw [if_neg e] at h1 h2
      exact hE.2 p av y h1 h2

theorem ok_mv {x : Operand} (ho : o.op = .move x ∨ o.op = .assign x) (hR : Rel H ρ w) (hE : VRwl H ρ w E a.tmps.toList) (hv : vcOp P (.mv x) K H E) :
    Out P ((execOp a.eval o).run P w) (Post K H ρ w) := by
  have : (execOp a.eval o).run P w = .ok (.value (a.eval x)) w := by rcases ho with ho | ho <;> simp [execOp, ho]
  rw [this]
  exact Post.same hR hv (ev_ok hE x)

theorem ok_pick {c x y : Operand} (ho : o.op = .pick c x y) (hR : Rel H ρ w) (hE : VRwl H ρ w E a.tmps.toList) (hv : vcOp P (.pick c x y) K H E) :
    Out P ((execOp a.eval o).run P w) (Post K H ρ w) := by
  have hc := ev_ok hE c
  simp only [vcOp] at hv
  split at hv
  · rename_i p hp
    rw [hp] at hc
    have hc := hc.v_inv
    cases p
    · have : (execOp a.eval o).run P w = .ok (.value (a.eval y)) w := by simp [execOp, ho, hc, asBool]
      rw [this]
      exact Post.same hR hv (ev_ok hE y)
    · have : (execOp a.eval o).run P w = .ok (.value (a.eval x)) w := by simp [execOp, ho, hc, asBool]
      rw [this]
      exact Post.same hR hv (ev_ok hE x)
  · exact hv.elim

theorem ok_not {t : Nat} {x : Operand} (ho : o.op = .unOp .not t x) (hR : Rel H ρ w) (hE : VRwl H ρ w E a.tmps.toList) (hv : vcOp P (.not x) K H E) :
    Out P ((execOp a.eval o).run P w) (Post K H ρ w) := by
  have hc := ev_ok hE x
  simp only [vcOp] at hv
  split at hv
  · rename_i p hp
    rw [hp] at hc
    have hc := hc.v_inv
    have : (execOp a.eval o).run P w = .ok (.value (.bool !p)) w := by simp [execOp, ho, hc, Op.unary]
    rw [this]
    exact Post.same hR hv (.v _)
  · exact hv.elim

theorem ok_neg {t : Nat} {x : Operand} (ho : o.op = .unOp .neg t x) (hR : Rel H ρ w) (hE : VRwl H ρ w E a.tmps.toList) (hv : vcOp P (.neg x) K H E) :
    Out P ((execOp a.eval o).run P w) (Post K H ρ w) := by
  have hc := ev_ok hE x
  simp only [vcOp] at hv
  split at hv
  · rename_i k n hp
    rw [hp] at hc
    have hc := hc.v_inv
    have : (execOp a.eval o).run P w = .ok (.value (.int k (k.wrap (0 - n)))) w := by simp [execOp, ho, hc, Op.unary, Op.intArith]
    rw [this]
    exact Post.same hR hv (.v _)
  · exact hv.elim

theorem run_bin_slice (t e : Nat) (h : P.underlying t = some (.slice e)) (x : Option Addr) (n c n' c' : Nat) (w : World) :
    (binOp .eql t (.slice x n c) (.slice none n' c')).run P w = .ok (.bool x.isNone) w ∧ (binOp .neq t (.slice x n c) (.slice none n' c')).run P w = .ok (.bool !x.isNone) w := by
  have hd : ∀ d, (Op.equalIn (d + 1) t (.slice x n c) (.slice none n' c')).run P w = .ok x.isNone w := fun d => by cases x <;> simp [Op.equalIn, run_underlying h]
  have hd' : (Op.equal t (.slice x n c) (.slice none n' c')).run P w = .ok x.isNone w := by rw [Op.equal, Op.maxDepth]; exact hd 9999
  constructor <;> simp only [binOp] <;> simp [hd']

theorem run_bin_bool (t : Nat) (h : P.underlying t = some .bool) (x y : Bool) (w : World) :
    (binOp .eql t (.bool x) (.bool y)).run P w = .ok (.bool (x == y)) w ∧ (binOp .neq t (.bool x) (.bool y)).run P w = .ok (.bool !(x == y)) w := by
  have hd : ∀ d, (Op.equalIn (d + 1) t (.bool x) (.bool y)).run P w = .ok (x == y) w := fun d => by simp [Op.equalIn, run_underlying h]
  have hd' : (Op.equal t (.bool x) (.bool y)).run P w = .ok (x == y) w := by rw [Op.equal, Op.maxDepth]; exact hd 9999
  constructor <;> simp only [binOp] <;> simp [hd']

def classOf (P : Program) (t : Nat) : Nat := match P.underlying t with | some .bool => 1 | some (.slice _) => 2 | _ => 0
theorem classOf_1 {t : Nat} (h : classOf P t = 1) : P.underlying t = some .bool := by
  unfold classOf at h; split at h <;> first | assumption | omega
theorem classOf_2 {t : Nat} (h : classOf P t = 2) : ∃ e, P.underlying t = some (.slice e) := by
  unfold classOf at h; split at h <;> first | exact ⟨_, by assumption⟩ | omega

theorem ok_bin {op : BinOp} {t u : Nat} {x y : Operand} (ho : o.op = .binOp op t x y u) (hR : Rel H ρ w) (hE : VRwl H ρ w E a.tmps.toList) (hv : vcOp P (.bin op (classOf P t) x y) K H E) :
    Out P ((execOp a.eval o).run P w) (Post K H ρ w) := by
  have hx := ev_ok hE x
  have hy := ev_ok hE y
  simp only [vcOp] at hv
  unfold vcBin at hv
  split at hv
  · rename_i k p k' q hp hq
    rw [hp] at hx; rw [hq] at hy
    have hx := hx.v_inv; have hy := hy.v_inv
    obtain ⟨rfl, hv⟩ := hv
    split at hv
    case h_4 => 
      have : (execOp a.eval o).run P w = .ok (.value (.int k (k.wrap (p.tdiv q)))) w := by simp [execOp, ho, hx, hy, eqGuard, binOp, Op.intDiv, hv.1]
      rw [this]; exact Post.same hR hv.2 (.v _)
    case h_5 => 
      have : (execOp a.eval o).run P w = .ok (.value (.int k (p.tmod q))) w := by simp [execOp, ho, hx, hy, eqGuard, binOp, Op.intDiv, hv.1]
      rw [this]; exact Post.same hR hv.2 (.v _)
    case h_12 => exact hv.elim
    all_goals
      refine (?_ : Out P _ _)
      simp only [execOp, ho, hx, hy, eqGuard, binOp, Op.intArith, Op.intCmp, Sem.run_bind, Sem.run_pure, Result.andThen_ok, if_true, if_false, ne_eq, not_true_eq_false, Bool.not_true, Bool.not_false, Bool.false_eq_true]
      exact Post.same hR hv (.v _)
  · rename_i p q hp hq
    rw [hp] at hx; rw [hq] at hy
    have hx := hx.v_inv; have hy := hy.v_inv
    split at hv
    case h_1 =>
      have : (execOp a.eval o).run P w = .ok (.value (.string (p ++ q))) w := by
        simp [execOp, ho, hx, hy, eqGuard, binOp, Op.stringOp]
        have := hv.1
        omega
      rw [this]; exact Post.same hR hv.2 (.v _)
    case h_8 => exact hv.elim
    all_goals
      refine (?_ : Out P _ _)
      simp only [execOp, ho, hx, hy, eqGuard, binOp, Op.stringOp, Sem.run_bind, Sem.run_pure, Result.andThen_ok, if_true, if_false, Bool.not_true, Bool.not_false, Bool.false_eq_true]
      exact Post.same hR hv (.v _)
  · rename_i p q hp hq
    rw [hp] at hx; rw [hq] at hy
    have hx := hx.v_inv; have hy := hy.v_inv
    obtain ⟨hc, hv⟩ := hv
    have hu := run_bin_bool t (classOf_1 hc) p q w
    split at hv
    · have : (execOp a.eval o).run P w = .ok (.value (.bool (p == q))) w := by simp [execOp, ho, hx, hy, eqGuard, hu.1]
      rw [this]; exact Post.same hR hv (.v _)
    · have : (execOp a.eval o).run P w = .ok (.value (.bool (!(p == q)))) w := by simp [execOp, ho, hx, hy, eqGuard, hu.2]
      rw [this]; exact Post.same hR hv (.v _)
    · exact hv.elim
  · rename_i n c n' c' hp hq
    rw [hp] at hx; rw [hq] at hy
    have hx := hx.v_inv; have hy := hy.v_inv
    obtain ⟨hc, hv⟩ := hv
    obtain ⟨e, hc⟩ := classOf_2 hc
    have hu := run_bin_slice t e hc none n c n' c' w
    split at hv
    · have : (execOp a.eval o).run P w = .ok (.value (.bool true)) w := by simp [execOp, ho, hx, hy, eqGuard, hu.1]
      rw [this]; exact Post.same hR hv (.v _)
    · have : (execOp a.eval o).run P w = .ok (.value (.bool false)) w := by simp [execOp, ho, hx, hy, eqGuard, hu.2]
      rw [this]; exact Post.same hR hv (.v _)
    · exact hv.elim
  · rename_i b n n' c' hp hq
    rw [hp] at hx; rw [hq] at hy
    have hy := hy.v_inv
    obtain ⟨hc, hv⟩ := hv
    obtain ⟨e, hc⟩ := classOf_2 hc
    generalize hxx : a.eval x = xx at hx
    cases hx with
    | own b n c h1 h2 h3 =>
    have hu := run_bin_slice t e hc (some ⟨(ρ b).k, 0, none⟩) n c n' c' w
    split at hv
    · have : (execOp a.eval o).run P w = .ok (.value (.bool false)) w := by simp [execOp, ho, hxx, hy, eqGuard, hu.1]
      rw [this]; exact Post.same hR hv (.v _)
    · have : (execOp a.eval o).run P w = .ok (.value (.bool true)) w := by simp [execOp, ho, hxx, hy, eqGuard, hu.2]
      rw [this]; exact Post.same hR hv (.v _)
    · exact hv.elim
  · exact hv.elim
end
end Go.Abs
