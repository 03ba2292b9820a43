/- Whole bodies: what is to be shown of code, and that it is so. Laws of the model alone. -/
import Derived.Test.YtpaflfaokgapgaaAL
import Derived.Deep.LoopGhost
namespace Go.Abs

inductive CC where
  | skip
  | ops (l : List CO)
  | draw (m : Nat) (l : List CO)
  | seq (a b : CC)
  | cond (x : Operand) (t e : CC)
  | block (id : Nat) (c : CC)
  | loop (c : CC)
  | exit (id : Nat)
  | ret
  | dead
  | loud (m : Nat) (t : LT) (ms tl : List CO)

def firstTail (ops : List Oper) : Nat := ((List.range (ops.length + 1)).find? fun m => tailOk ops m).getD ops.length

def comp (P : Program) : Code → Option CC
  | .skip => some .skip
  | .region _ ops d => match compL P ops ops.toList with
    | some cs => if d = true then (if ((cs.take (firstTail ops.toList)).any fun c => c.op.makes) = true then (if (edgesOk ops.toList && tailOk ops.toList (firstTail ops.toList) && loudOk ops.toList cs (firstTail ops.toList) (loudL ops.toList cs (firstTail ops.toList)) && decide (firstTail ops.toList ≤ ops.size)) = true then
        some (.loud (firstTail ops.toList) (mkT (besides cs (loudL ops.toList cs (firstTail ops.toList))) (loudL ops.toList cs (firstTail ops.toList)).length []) (maskL (loudL ops.toList cs (firstTail ops.toList)) (cs.take (firstTail ops.toList))) (cs.drop (firstTail ops.toList))) else some .dead) else if (edgesOk ops.toList && tailOk ops.toList (firstTail ops.toList) && quietOk ops.toList cs (firstTail ops.toList) && decide (firstTail ops.toList ≤ ops.size)) = true then some (.draw (firstTail ops.toList) cs) else some .dead) else some (.ops cs)
    | none => some .dead
  | .seq a b => match comp P a, comp P b with
    | some x, some y => some (.seq x y)
    | _, _ => none
  | .cond x a b => match comp P a, comp P b with
    | some t, some e => some (.cond x t e)
    | _, _ => none
  | .block id a => match comp P a with
    | some x => some (.block id x)
    | none => none
  | .loop a => match comp P a with
    | some x => some (.loop x)
    | none => none
  | .exit id => some (.exit id)
  | .ret => some .ret
  | _ => none

/-- What stands behind a piece of code. -/
def andThen (N : Heap → List AV → Prop) (K : Exit → Heap → List AV → Prop) : Exit → Heap → List AV → Prop
  | .normal, H, E => N H E
  | e, H, E => K e H E
def inBlk (id : Nat) (K : Exit → Heap → List AV → Prop) : Exit → Heap → List AV → Prop
  | .exit i, H, E => if i = id then K .normal H E else K (.exit i) H E
  | e, H, E => K e H E

/-- Less is told of the slots. -/
def Wk : List AV → List AV → Prop
  | [], [] => True
  | a :: l, b :: l' => (a = .any ∨ a = b) ∧ Wk l l'
  | _, _ => False
theorem Wk.refl : ∀ l : List AV, Wk l l
  | [] => trivial
  | _ :: l => ⟨.inr rfl, Wk.refl l⟩
theorem Wk_nil : Wk [] [] = True := rfl
theorem Wk_any (l l' : List AV) (b : AV) : Wk (.any :: l) (b :: l') = Wk l l' := by simp [Wk]
theorem Wk_same (l l' : List AV) (b : AV) : Wk (b :: l) (b :: l') = Wk l l' := by simp [Wk]
theorem Wk_cons (l l' : List AV) (a b : AV) : Wk (a :: l) (b :: l') = ((a = .any ∨ a = b) ∧ Wk l l') := rfl
theorem Wk.vrl {N : Nat} {ρ : Nat → Bl} {L : Nat → Prop} {w : World} : ∀ {l l' : List AV} {vs : List Value}, Wk l l' → VRl N ρ L w l' vs → VRl N ρ L w l vs
  | [], [], vs, _, h => h
  | [], _ :: _, _, h, _ => h.elim
  | _ :: _, [], _, h, _ => h.elim
  | a :: l, b :: l', vs, h, hv => by
    cases vs with
    | nil => have := hv.1; simp at this
    | cons v vs =>
      have hl : vs.length = l'.length := by have := hv.1; simpa using this
      have ih := Wk.vrl (vs := vs) h.2 ⟨hl, fun p av x e1 e2 => hv.2 (p + 1) av x (by simpa using e1) (by simpa using e2)⟩
      refine ⟨by simp [ih.1], fun p av x e1 e2 => ?_⟩
      cases p with
      | zero =>
        simp only [List.getElem?_cons_zero, Option.some.injEq] at e1 e2
        subst e1; subst e2
        rcases h.1 with rfl | rfl
        · exact .any _
        · exact hv.2 0 _ _ rfl rfl
      | succ p => exact ih.2 p av x (by simpa using e1) (by simpa using e2)

/-- Fewer blocks are told of. -/
def Dr (G H : Heap) : Prop := G.nx = H.nx ∧ ∀ b x, G.m b = some x → H.m b = some x
theorem Dr.refl (H : Heap) : Dr H H := ⟨rfl, fun _ _ h => h⟩
theorem Dr.live {G H : Heap} {ρ : Nat → Bl} (h : Dr G H) {k : Nat} : Live G ρ k → Live H ρ k := fun ⟨b, x, h1, h2⟩ => ⟨b, x, h.2 b x h1, h2⟩
theorem Dr.vrl {G H : Heap} {ρ : Nat → Bl} {w : World} (h : Dr G H) {as : List AV} {vs : List Value} (hv : VRwl H ρ w as vs) : VRwl G ρ w as vs :=
  VRl.mono (by rw [h.1]; exact Nat.le_refl _) (fun _ _ => rfl) (fun a x hc => ⟨hc.1, hc.2.1, fun hl => hc.2.2 (h.live hl)⟩) hv
theorem Dr.rel {G H : Heap} {ρ : Nat → Bl} {w : World} (h : Dr G H) (hR : Rel H ρ w) : Rel G ρ w where
  lt b x hb := by rw [h.1]; exact hR.lt b x (h.2 b x hb)
  blk b x hb := by
    obtain ⟨cur, ty, hk⟩ := hR.blk b x (h.2 b x hb)
    exact ⟨cur, ty, hk.at_, hk.sz, hk.size, hk.cap, hk.rows, hk.len, hk.ones, h.vrl hk.rel⟩
  inj b b' x x' hb hb' he := hR.inj b b' x x' (h.2 b x hb) (h.2 b' x' hb') he

/-- What is to be shown of code; K: what must hold where it is left. -/
def vc (P : Program) : CC → (Exit → Heap → List AV → Prop) → Heap → List AV → Prop
  | .skip, K, H, E => K .normal H E
  | .ops l, K, H, E => vcOps P l (K .normal) H E
  | .draw m l, K, H, E => vcQ P H (l.take m) (vcOps P (l.drop m) (K .normal) H) E
  | .seq a b, K, H, E => vc P a (andThen (vc P b K) K) H E
  | .cond x t e, K, H, E => match ev E x with
    | .v (.bool p) => (p = true → vc P t K H E) ∧ (p = false → vc P e K H E)
    | _ => False
  | .block id c, K, H, E => vc P c (inBlk id K) H E
  | .loop c, K, H, E => ∃ I : Nat → Heap → List AV → Prop, (∃ n G F, I n G F ∧ Dr G H ∧ Wk F E) ∧ ∀ n H E, I n H E → vc P c (andThen (fun H' E' => ∃ n' G F, n' < n ∧ I n' G F ∧ Dr G H' ∧ Wk F E') K) H E
  | .exit id, K, H, E => K (.exit id) H E
  | .ret, K, H, E => K .ret H E
  | .dead, _, _, _ => False
  | .loud _ t ms tl, K, H, E => ∃ EF J, (∀ G, J G → vcQ P G ms (fun E' => E' = EF) E) ∧ vcT P J (vcOps P tl (K .normal)) t H EF

section
variable {P : Program} {H0 : Heap} {ρ0 : Nat → Bl} {w0 : World}

theorem St.wk {H : Heap} {E F : List AV} {a : Act} {w : World} (hs : St H0 ρ0 w0 H E a w) (h : Wk F E) : St H0 ρ0 w0 H F a w := by
  obtain ⟨ρ, hR, hE, hN, hd⟩ := hs
  exact ⟨ρ, hR, h.vrl hE, hN, hd⟩

theorem St.dr {G H : Heap} {E : List AV} {a : Act} {w : World} (hs : St H0 ρ0 w0 H E a w) (h : Dr G H) : St H0 ρ0 w0 G E a w := by
  obtain ⟨ρ, hR, hE, hN, hd⟩ := hs
  exact ⟨ρ, h.rel hR, h.vrl hE, ⟨by rw [h.1]; exact hN.nx, hN.rho, hN.os, hN.tape, hN.output, hN.size, hN.heap, fun k hk => hN.live k (h.live hk)⟩, hd⟩

theorem vc_ok (hm : P.follows .mixedOrders = true) : ∀ (c : Code) (cc : CC) (K : Exit → Heap → List AV → Prop) (H : Heap) (E : List AV) (a : Act) (w : World), comp P c = some cc → vc P cc K H E → St H0 ρ0 w0 H E a w →
    c.wp P (fun ex a' w' => ∃ H' E', K ex H' E' ∧ St H0 ρ0 w0 H' E' a' w') a w := by
  intro c
  induction c with
  | skip => intro cc K H E a w hc hv hs; simp only [comp, Option.some.injEq] at hc; subst hc; exact wp_skip ⟨H, E, hv, hs⟩
  | region id ops d =>
    intro cc K H E a w hc hv hs
    simp only [comp] at hc
    split at hc
    · rename_i cs hcs
      split at hc
      · rename_i hd
        subst hd
        split at hc
        · split at hc
          · rename_i hck
            simp only [Bool.and_eq_true, decide_eq_true_eq] at hck
            cases hc
            obtain ⟨EF, J, h1, h2⟩ := hv
            exact loud_ok hm hcs hck.1.1.1 hck.1.1.2 hck.1.2 hck.2 hs ⟨EF, J, h1, vcM_vcL _ _ _ _ (vcT_vcM _ _ _ _ h2)⟩ fun H' E' a' w' k hs' => ⟨H', E', k, hs'⟩
          · cases hc; exact hv.elim
        split at hc
        · rename_i hck
          simp only [Bool.and_eq_true, decide_eq_true_eq] at hck
          cases hc
          exact draw_ok hm hcs hck.1.1.1 hck.1.1.2 hck.1.2 hck.2 hs hv fun H' E' a' w' k hs' => ⟨H', E', k, hs'⟩
        · cases hc; exact hv.elim
      · rename_i hd
        have : d = false := by simpa using hd
        subst this
        cases hc
        exact wp_region_list (ops_ok ops.toList cs H E a w hcs hs hv fun H' E' a' w' k hs' => ⟨H', E', k, hs'⟩)
    · cases hc; exact hv.elim
  | seq x y ihx ihy =>
    intro cc K H E a w hc hv hs
    simp only [comp] at hc
    split at hc
    · rename_i cx cy hx hy
      cases hc
      refine wp_seq (wp_mono (ihx cx _ H E a w hx hv hs) fun e a' w' ⟨H', E', k, hs'⟩ => ?_)
      cases e with
      | normal => exact ihy cy K H' E' a' w' hy k hs'
      | exit i => exact ⟨H', E', k, hs'⟩
      | goto l => exact ⟨H', E', k, hs'⟩
      | ret => exact ⟨H', E', k, hs'⟩
      | panic ch => exact ⟨H', E', k, hs'⟩
      | outgrown => exact ⟨H', E', k, hs'⟩
    · cases hc
  | cond x t e iht ihe =>
    intro cc K H E a w hc hv hs
    simp only [comp] at hc
    split at hc
    · rename_i ct ce ht he
      cases hc
      simp only [vc] at hv
      split at hv
      · rename_i p hp
        have hx : a.eval x = .bool p := by
          obtain ⟨ρ, hR, hE, hN, hd⟩ := hs
          have := ev_ok hE x
          rw [hp] at this
          exact this.v_inv
        exact wp_cond_split hx (fun h => iht ct K H E a w ht (hv.1 h) hs) (fun h => ihe ce K H E a w he (hv.2 h) hs)
      · exact hv.elim
    · cases hc
  | block id c ih =>
    intro cc K H E a w hc hv hs
    simp only [comp] at hc
    split at hc
    · rename_i cx hx
      cases hc
      refine wp_block (wp_mono (ih cx _ H E a w hx hv hs) fun e a' w' ⟨H', E', k, hs'⟩ => ?_)
      cases e with
      | exit i =>
        simp only [Exit.inBlock]
        simp only [inBlk] at k
        split
        · rename_i h; rw [if_pos h] at k; exact ⟨H', E', k, hs'⟩
        · rename_i h; rw [if_neg h] at k; exact ⟨H', E', k, hs'⟩
      | normal => exact ⟨H', E', k, hs'⟩
      | goto l => exact ⟨H', E', k, hs'⟩
      | ret => exact ⟨H', E', k, hs'⟩
      | panic ch => exact ⟨H', E', k, hs'⟩
      | outgrown => exact ⟨H', E', k, hs'⟩
    · cases hc
  | loop c ih =>
    intro cc K H E a w hc hv hs
    simp only [comp] at hc
    split at hc
    · rename_i cx hx
      cases hc
      obtain ⟨I, ⟨n, G, F, hI, hG, hF⟩, hr⟩ := hv
      refine wp_loop_ghost (fun n a w => ∃ H E, I n H E ∧ St H0 ρ0 w0 H E a w) n ⟨G, F, hI, (hs.wk hF).dr hG⟩ ?_
      rintro n a w ⟨H, E, hI, hs⟩
      refine wp_mono (ih cx _ H E a w hx (hr n H E hI) hs) fun e a' w' ⟨H', E', k, hs'⟩ => ?_
      cases e with
      | normal => obtain ⟨n', G, F, h1, h2, hG, hF⟩ := k; exact ⟨n', h1, G, F, h2, (hs'.wk hF).dr hG⟩
      | exit i => exact ⟨H', E', k, hs'⟩
      | goto l => exact ⟨H', E', k, hs'⟩
      | ret => exact ⟨H', E', k, hs'⟩
      | panic ch => exact ⟨H', E', k, hs'⟩
      | outgrown => exact ⟨H', E', k, hs'⟩
    · cases hc
  | exit id => intro cc K H E a w hc hv hs; simp only [comp, Option.some.injEq] at hc; subst hc; exact wp_exit ⟨H, E, hv, hs⟩
  | ret => intro cc K H E a w hc hv hs; simp only [comp, Option.some.injEq] at hc; subst hc; exact wp_ret ⟨H, E, hv, hs⟩
  | rangeFunc f ps x y _ _ => intro cc K H E a w hc; simp [comp] at hc
  | scope x _ => intro cc K H E a w hc; simp [comp] at hc
  | label l => intro cc K H E a w hc; simp [comp] at hc
  | goto l => intro cc K H E a w hc; simp [comp] at hc
  | refuse s => intro cc K H E a w hc; simp [comp] at hc
end

/-- Results: a slot, or a variable in memory. -/
inductive RV where
  | tmp (t : Nat)
  | cell (agg : Bool) (n : Nat) (t : Nat)
def compR (P : Program) : ResultVar → Option RV
  | .tmp t => some (.tmp t)
  | .cell t ty => match aggT P ty with
    | some (agg, n) => some (.cell agg n t)
    | none => none
def compRs (P : Program) : List ResultVar → Option (List RV)
  | [] => some []
  | r :: rs => match compR P r, compRs P rs with
    | some x, some xs => some (x :: xs)
    | _, _ => none
def resA (H : Heap) (E : List AV) : RV → Option AV
  | .tmp t => some (ev E (.tmp t))
  | .cell agg n t => match ev E (.tmp t) with
    | .ptr b i j => match H.m b with
      | some x => if i < x.el.length ∧ j + n ≤ x.sz then some (pack agg (((x.el.getD i []).drop j).take n)) else none
      | none => none
    | _ => none
def resAll (H : Heap) (E : List AV) : List RV → Option (List AV)
  | [] => some []
  | r :: rs => match resA H E r, resAll H E rs with
    | some x, some xs => some (x :: xs)
    | _, _ => none
def retOf : List AV → AV
  | [r] => r
  | l => .tup l
def vcRet (rs : List RV) (Q : AV → Heap → Prop) (H : Heap) (E : List AV) : Prop :=
  match resAll H E rs with
  | some l => Q (retOf l) H
  | none => False
def vcEnd (rs : List RV) (Q : AV → Heap → Prop) : Exit → Heap → List AV → Prop
  | .normal, H, E | .ret, H, E => vcRet rs Q H E
  | _, _, _ => False

def resF (tmps : Array Value) : ResultVar → Sem Value
  | .tmp t => pure (tmps.getD t undef)
  | .cell a t => do loadVar t (← asAddr (tmps.getD a undef))
theorem results_eq (fn : Func) (tmps : Array Value) : results fn tmps = (fn.results.mapM (resF tmps) >>= fun vs => pure (if h : vs.size = 1 then vs[0] else .tuple vs)) := by
  unfold results
  congr 1

theorem res_ok {P : Program} {H : Heap} {ρ : Nat → Bl} {w : World} {E : List AV} {a : Act} (hR : Rel H ρ w) (hE : VRwl H ρ w E a.tmps.toList) : ∀ (xs : List ResultVar) (rs : List RV) (l : List AV), compRs P xs = some rs → resAll H E rs = some l →
    ∃ vs : List Value, (xs.mapM (resF a.tmps)).run P w = Result.ok vs w ∧ VRwl H ρ w l vs
  | [], rs, l, h1, h2 => by
    simp only [compRs, Option.some.injEq] at h1
    subst h1
    simp only [resAll, Option.some.injEq] at h2
    subst h2
    exact ⟨[], by simp, VRl.nil⟩
  | x :: xs, rs, l, h1, h2 => by
    simp only [compRs] at h1
    split at h1
    · rename_i r rs' hr hrs
      cases h1
      simp only [resAll] at h2
      split at h2
      · rename_i y ys hy hys
        cases h2
        obtain ⟨vs, e1, e2⟩ := res_ok hR hE xs rs' ys hrs hys
        cases x with
        | tmp t =>
          simp only [compR, Option.some.injEq] at hr
          subst hr
          simp only [resA, Option.some.injEq] at hy
          subst hy
          refine ⟨a.tmps.getD t undef :: vs, by simp [List.mapM_cons, e1, resF], ?_⟩
          have := (VRl.one (ev_ok hE (.tmp t))).append e2
          simpa [Act.eval] using this
        | cell c t =>
          simp only [compR] at hr
          split at hr
          · rename_i agg n ht
            cases hr
            simp only [resA] at hy
            split at hy
            · rename_i b i j hp
              split at hy
              · rename_i bx hb
                split at hy
                · rename_i hij
                  cases hy
                  have hx := ev_ok hE (.tmp c)
                  rw [hp] at hx
                  simp only [Act.eval] at hx
                  generalize hcc : a.tmps.getD c undef = cc at hx
                  cases hx with
                  | ptr b i j q1 =>
                  obtain ⟨cur, ty, hk⟩ := hR.blk b bx hb
                  obtain ⟨us, u1, u2, u3, u4⟩ := blk_part hk hij.1 hij.2
                  rw [hk.sz] at hcc
                  obtain ⟨z, hz, hzv⟩ := loadVar_ok ht u1 u4 u2 u3
                  exact ⟨z :: vs, by simp [List.mapM_cons, e1, resF, hcc, asAddr, hz], (VRl.one hzv).append e2⟩
                · cases hy
              · cases hy
            · cases hy
          · cases hr
      · cases h2
    · cases h1

theorem fn_of_vc {P : Program} (hm : P.follows .mixedOrders = true) {f : Nat} {fn : Func} {c : Code} {cc : CC} {rs : List RV} (hf : P.funcs[f]? = some fn) (hb : fn.body = some c) (hn : (fn.name == "runtime.NumGoroutine") = false)
    (hc : comp P c = some cc) (hr : compRs P fn.results.toList = some rs) {as : List AV} {H : Heap} {Q : AV → Heap → Prop}
    (h : vc P cc (vcEnd rs Q) H (as ++ List.replicate (fn.ntmps - as.length) .any)) : Runs P f as H Q := by
  refine Runs.of fun ρ w vs hR hv => ?_
  have hcf : (callFunc f vs.toArray).run P w = .ok (.enter f vs.toArray) w := by
    simp only [callFunc, Sem.run_bind, run_program, Result.andThen_ok, hf, hn, hb]
    rfl
  rw [hcf]
  show Calls P f vs.toArray w _
  refine calls_of_wp hf hb ?_
  refine wp_mono (vc_ok (H0 := H) (ρ0 := ρ) (w0 := w) hm c cc _ H _ _ _ hc h ⟨ρ, hR, ?_, Nx.refl _ _ _, rfl⟩) ?_
  · have : (vs.toArray ++ Array.replicate (fn.ntmps - vs.toArray.size) undef).toList = vs ++ List.replicate (fn.ntmps - as.length) undef := by simp [hv.1]
    rw [this]
    refine hv.append ⟨by simp, fun p av x h1 _ => ?_⟩
    rw [List.getElem?_replicate] at h1
    split at h1
    · cases h1; exact .any _
    · cases h1
  · rintro e a' w' ⟨H', E', k, ρ', hR', hE', hN', hd⟩
    have key : vcRet rs Q H' E' → a'.defers = [] ∧ ∃ v, (results fn a'.tmps).run P w' = .ok v w' ∧ (∃ u, Ending.returned v = .returned u ∧ Post Q H ρ w u w') := by
      intro k
      unfold vcRet at k
      split at k
      · rename_i l hl
        obtain ⟨us, u1, u2⟩ := res_ok hR' hE' fn.results.toList rs l hr hl
        refine ⟨hd, if h : us.toArray.size = 1 then us.toArray[0] else .tuple us.toArray, ?_, _, rfl, retOf l, H', ρ', k, hR', ?_, hN'⟩
        · rw [results_eq, Array.mapM_eq_mapM_toList]
          simp only [Sem.run_bind, Sem.run_map, u1, Result.andThen_ok, Sem.run_pure]
        · cases us with
          | nil =>
            have : l = [] := List.eq_nil_of_length_eq_zero u2.1.symm
            subst this
            exact .tup [] [] rfl u2.2
          | cons x xs =>
            cases xs with
            | nil =>
              have hlen := u2.1
              simp only [List.length_cons, List.length_nil] at hlen
              obtain ⟨y, rfl⟩ : ∃ y, l = [y] := by
                cases l with
                | nil => simp only [List.length_nil] at hlen; omega
                | cons y ys => cases ys with
                  | nil => exact ⟨y, rfl⟩
                  | cons _ _ => simp only [List.length_cons] at hlen; omega
              exact u2.2 0 y x rfl rfl
            | cons x' xs' =>
              have hlen := u2.1
              have : retOf l = .tup l := by
                cases l with
                | nil => rfl
                | cons y ys => cases ys with
                  | nil => simp only [List.length_cons, List.length_nil] at hlen; omega
                  | cons _ _ => rfl
              rw [this, dif_neg (show ¬ (x :: x' :: xs').toArray.size = 1 by simp)]
              exact .tup l _ u2.1 u2.2
      · exact k.elim
    cases e with
    | normal => exact key k
    | ret => exact key k
    | exit i => exact k.elim
    | goto l => exact k.elim
    | panic ch => exact k.elim
    | outgrown => exact k.elim

theorem fn_go {P : Program} (hm : P.follows .mixedOrders = true) {f : Nat} {fn : Func} {cc : CC} {rs : List RV} (hf : P.funcs[f]? = some fn) (hc : fn.body.bind (comp P) = some cc) (hr : compRs P fn.results.toList = some rs)
    (hn : (fn.name == "runtime.NumGoroutine") = false) {n : Nat} (ht : fn.ntmps = n) {as E0 : List AV} {H : Heap} {Q : AV → Heap → Prop} (h : vc P cc (vcEnd rs Q) H E0) (k : Nat) (hk : as.length + k = n) (hE : as ++ List.replicate k .any = E0) : Runs P f as H Q := by
  subst hE
  have e : fn.ntmps - as.length = k := by omega
  cases hb : fn.body with
  | none => rw [hb] at hc; cases hc
  | some c => rw [hb] at hc; exact fn_of_vc hm hf hb hn hc hr (by rw [e]; exact h)

/-! ### Running: what stays unopened till it is its turn -/

/-- A test, its two ways behind it. -/
def vcIf (p : Bool) (F G : Heap → List AV → Prop) (H : Heap) (E E' : List AV) : Prop := (p = true → F H E) ∧ (p = false → G H E')
theorem vcIf_true (F G : Heap → List AV → Prop) (H : Heap) (E E' : List AV) : vcIf true F G H E E' = F H E := by simp [vcIf]
theorem vcIf_false (F G : Heap → List AV → Prop) (H : Heap) (E E' : List AV) : vcIf false F G H E E' = G H E' := by simp [vcIf]
theorem vcIf_not (p : Bool) (F G : Heap → List AV → Prop) (H : Heap) (E E' : List AV) : vcIf (!p) F G H E E' = vcIf p G F H E' E := by cases p <;> simp [vcIf]
theorem vcIf.of {p : Bool} {F G : Heap → List AV → Prop} {H : Heap} {E E' : List AV} (h : p = true → F H E) (k : p = false → G H E') : vcIf p F G H E E' := ⟨h, k⟩
/-- A test of what is known. -/
theorem vcIf.dec {q : Prop} [Decidable q] {F G : Heap → List AV → Prop} {H : Heap} {E E' : List AV} (h : q → F H E) (k : ¬ q → G H E') : vcIf (decide q) F G H E E' :=
  ⟨fun e => h (of_decide_eq_true e), fun e => k (of_decide_eq_false e)⟩
/-- A test in a region that draws its order. -/
def vcQIf (p : Bool) (F G : List AV → Prop) (E E' : List AV) : Prop := (p = true → F E) ∧ (p = false → G E')
theorem vcQIf_true (F G : List AV → Prop) (E E' : List AV) : vcQIf true F G E E' = F E := by simp [vcQIf]
theorem vcQIf_false (F G : List AV → Prop) (E E' : List AV) : vcQIf false F G E E' = G E' := by simp [vcQIf]
theorem vcQIf_not (p : Bool) (F G : List AV → Prop) (E E' : List AV) : vcQIf (!p) F G E E' = vcQIf p G F E' E := by cases p <;> simp [vcQIf]
theorem vcQIf.of {p : Bool} {F G : List AV → Prop} {E E' : List AV} (h : p = true → F E) (k : p = false → G E') : vcQIf p F G E E' := ⟨h, k⟩

theorem vcQIf.dec {q : Prop} [Decidable q] {F G : List AV → Prop} {E E' : List AV} (h : q → F E) (k : ¬ q → G E') : vcQIf (decide q) F G E E' :=
  ⟨fun e => h (of_decide_eq_true e), fun e => k (of_decide_eq_false e)⟩

/-- A call, of whose function something is known. -/
def vcCall (P : Program) (g : Nat) (as : List AV) (K : Heap → List AV → Prop) (d : Option Nat) (H : Heap) (E : List AV) : Prop := ∃ Q, Runs P g as H Q ∧ ∀ r H', Q r H' → K H' (setE E d r)
theorem vcCall.of {P : Program} {g : Nat} {as : List AV} {K : Heap → List AV → Prop} {d : Option Nat} {H : Heap} {E : List AV} {Q : AV → Heap → Prop} (h : Runs P g as H Q) (k : ∀ r H', Q r H' → K H' (setE E d r)) : vcCall P g as K d H E := ⟨Q, h, k⟩
/-- A call that leaves what is ours as it was. -/
theorem vcCall.same {P : Program} {g : Nat} {as : List AV} {K : Heap → List AV → Prop} {d : Option Nat} {H : Heap} {E : List AV} {r : AV} (h : Runs P g as H fun r' H' => r' = r ∧ H' = H) (k : K H (setE E d r)) : vcCall P g as K d H E :=
  ⟨_, h, fun r' H' ⟨h1, h2⟩ => by subst h1; subst h2; exact k⟩
/-- A call that makes one known block. -/
theorem vcCall.to {P : Program} {g : Nat} {as : List AV} {K : Heap → List AV → Prop} {d : Option Nat} {H H' : Heap} {E : List AV} {r : AV} (h : Runs P g as H fun r' H'' => r' = r ∧ H'' = H') (k : K H' (setE E d r)) : vcCall P g as K d H E :=
  ⟨_, h, fun r' H' ⟨h1, h2⟩ => by subst h1; subst h2; exact k⟩
/-- A call in a region that draws its order. -/
def vcQCall (P : Program) (g : Nat) (as : List AV) (K : List AV → Prop) (d : Option Nat) (H : Heap) (E : List AV) : Prop := ∃ r, Runs P g as H (fun r' H' => r' = r ∧ H' = H) ∧ K (setE E d r)
theorem vcQCall.same {P : Program} {g : Nat} {as : List AV} {K : List AV → Prop} {d : Option Nat} {H : Heap} {E : List AV} {r : AV} (h : Runs P g as H fun r' H' => r' = r ∧ H' = H) (k : K (setE E d r)) : vcQCall P g as K d H E := ⟨r, h, k⟩

/-- A drawn region with loud operations, not looked into. -/
def vcLoud (P : Program) (t : LT) (ms : List CO) (fin : Heap → List AV → Prop) (H : Heap) (E : List AV) : Prop := ∃ EF J, (∀ G, J G → vcQ P G ms (fun E' => E' = EF) E) ∧ vcT P J fin t H EF
theorem vcLoud.of {P : Program} {t : LT} {ms : List CO} {fin : Heap → List AV → Prop} {H : Heap} {E : List AV} (J : Heap → Prop) (EF : List AV) (h1 : ∀ G, J G → vcQ P G ms (fun E' => E' = EF) E) (h2 : vcT P J fin t H EF) : vcLoud P t ms fin H E := ⟨EF, J, h1, h2⟩
theorem vcT_leaf (P : Program) (J : Heap → Prop) (fin : Heap → List AV → Prop) (H : Heap) (E : List AV) : vcT P J fin .leaf H E = (J H ∧ fin H E) := rfl
theorem vcT_alt (P : Program) (J : Heap → Prop) (fin : Heap → List AV → Prop) (a b : LT) (H : Heap) (E : List AV) : vcT P J fin (.alt a b) H E = (vcT P J fin a H E ∧ vcT P J fin b H E) := rfl
theorem vcT_step (P : Program) (J : Heap → Prop) (fin : Heap → List AV → Prop) (c : CO) (t : LT) (H : Heap) (E : List AV) : vcT P J fin (.step c t) H E = (J H ∧ vcOps P [c] (vcT P J fin t) H E) := rfl
/-- A loop, its code not looked into. -/
def vcLoop (P : Program) (c : CC) (K : Exit → Heap → List AV → Prop) (H : Heap) (E : List AV) : Prop := vc P (.loop c) K H E
theorem vcLoop.st {P : Program} {c : CC} {K : Exit → Heap → List AV → Prop} {H : Heap} {E : List AV} {σ : Type} (s0 : σ) (inv : σ → Prop) (m : σ → Nat) (h : σ → Heap) (e : σ → List AV) (h0 : inv s0) (hH : Dr (h s0) H) (hE : Wk (e s0) E)
    (hr : ∀ s, inv s → vc P c (andThen (fun H' E' => ∃ s', m s' < m s ∧ inv s' ∧ Dr (h s') H' ∧ Wk (e s') E') K) (h s) (e s)) : vcLoop P c K H E := by
  refine ⟨fun n H E => ∃ s, m s = n ∧ inv s ∧ H = h s ∧ E = e s, ⟨m s0, h s0, e s0, ⟨s0, rfl, h0, rfl, rfl⟩, hH, hE⟩, ?_⟩
  rintro n H E ⟨s, rfl, hi, rfl, rfl⟩
  have e1 : andThen (fun H' E' => ∃ n' G F, n' < m s ∧ (∃ s', m s' = n' ∧ inv s' ∧ G = h s' ∧ F = e s') ∧ Dr G H' ∧ Wk F E') K = andThen (fun H' E' => ∃ s', m s' < m s ∧ inv s' ∧ Dr (h s') H' ∧ Wk (e s') E') K := by
    congr 1
    funext H' E'
    apply propext
    constructor
    · rintro ⟨n', G, F, h1, ⟨s', rfl, h2, rfl, rfl⟩, h3, h4⟩; exact ⟨s', h1, h2, h3, h4⟩
    · rintro ⟨s', h1, h2, h3, h4⟩; exact ⟨_, _, _, h1, ⟨s', rfl, h2, rfl, rfl⟩, h3, h4⟩
  rw [e1]
  exact hr s hi

theorem vc_skip (P : Program) (K : Exit → Heap → List AV → Prop) (H : Heap) (E : List AV) : vc P .skip K H E = K .normal H E := rfl
theorem vc_ops (P : Program) (l : List CO) (K : Exit → Heap → List AV → Prop) (H : Heap) (E : List AV) : vc P (.ops l) K H E = vcOps P l (K .normal) H E := rfl
theorem vc_draw (P : Program) (m : Nat) (l : List CO) (K : Exit → Heap → List AV → Prop) (H : Heap) (E : List AV) : vc P (.draw m l) K H E = vcQ P H (l.take m) (vcOps P (l.drop m) (K .normal) H) E := rfl
theorem vc_seq (P : Program) (a b : CC) (K : Exit → Heap → List AV → Prop) (H : Heap) (E : List AV) : vc P (.seq a b) K H E = vc P a (andThen (vc P b K) K) H E := rfl
theorem vc_block (P : Program) (id : Nat) (c : CC) (K : Exit → Heap → List AV → Prop) (H : Heap) (E : List AV) : vc P (.block id c) K H E = vc P c (inBlk id K) H E := rfl
theorem vc_exit (P : Program) (id : Nat) (K : Exit → Heap → List AV → Prop) (H : Heap) (E : List AV) : vc P (.exit id) K H E = K (.exit id) H E := rfl
theorem vc_ret (P : Program) (K : Exit → Heap → List AV → Prop) (H : Heap) (E : List AV) : vc P .ret K H E = K .ret H E := rfl
theorem vc_loud (P : Program) (m : Nat) (t : LT) (ms tl : List CO) (K : Exit → Heap → List AV → Prop) (H : Heap) (E : List AV) : vc P (.loud m t ms tl) K H E = vcLoud P t ms (vcOps P tl (K .normal)) H E := rfl
theorem vc_dead (P : Program) (K : Exit → Heap → List AV → Prop) (H : Heap) (E : List AV) : vc P .dead K H E = False := rfl
theorem vc_loop (P : Program) (c : CC) (K : Exit → Heap → List AV → Prop) (H : Heap) (E : List AV) : vc P (.loop c) K H E = vcLoop P c K H E := rfl
theorem vc_cond (P : Program) (x : Operand) (t e : CC) (K : Exit → Heap → List AV → Prop) (H : Heap) (E : List AV) : vc P (.cond x t e) K H E = match ev E x with
    | .v (.bool p) => vcIf p (vc P t K) (vc P e K) H E E
    | _ => False := rfl
theorem vcOps_nil (P : Program) (K : Heap → List AV → Prop) (H : Heap) (E : List AV) : vcOps P [] K H E = K H E := rfl
theorem vcOps_if (P : Program) (d : Option Nat) (t : Nat) (b : Bool) (op : MOp) (l : List CO) (K : Heap → List AV → Prop) (H : Heap) (E : List AV) :
    vcOps P (⟨d, some (t, b), op⟩ :: l) K H E = match ev E (.tmp t) with
      | .v (.bool p) => vcIf (p == b) (vcOps P (⟨d, none, op⟩ :: l) K) (vcOps P l K) H E (setE E d (.v undef))
      | .v (.tuple _) => vcOps P l K H (setE E d (.v undef))
      | _ => False := by
  simp only [vcOps, vcIf]
  generalize ev E (.tmp t) = z
  cases z
  case v x => cases x <;> first | rfl | (rename_i p; cases p <;> cases b <;> simp)
  all_goals rfl
theorem r_call (P : Program) (g : Nat) (args : List Operand) (d : Option Nat) (l : List CO) (K : Heap → List AV → Prop) (H : Heap) (E : List AV) : vcOps P (⟨d, none, .call (.func g) args⟩ :: l) K H E = vcCall P g (args.map (ev E)) (vcOps P l K) d H E := by
  simp only [vcOps, vcOp, ev, vcCall, List.append_nil]
theorem r_callv (P : Program) (t : Nat) (args : List Operand) (d : Option Nat) (l : List CO) (K : Heap → List AV → Prop) (H : Heap) (E : List AV) : vcOps P (⟨d, none, .call (.tmp t) args⟩ :: l) K H E = match ev E (.tmp t) with
    | .fn g caps => vcCall P g (args.map (ev E) ++ caps) (vcOps P l K) d H E
    | _ => False := rfl
theorem vcQ_nil (P : Program) (H : Heap) (K : List AV → Prop) (E : List AV) : vcQ P H [] K E = K E := rfl
theorem vcQ_if (P : Program) (H : Heap) (d : Option Nat) (t : Nat) (b : Bool) (op : MOp) (l : List CO) (K : List AV → Prop) (E : List AV) :
    vcQ P H (⟨d, some (t, b), op⟩ :: l) K E = match ev E (.tmp t) with
      | .v (.bool p) => vcQIf (p == b) (vcQ P H (⟨d, none, op⟩ :: l) K) (vcQ P H l K) E (setE E d (.v undef))
      | .v (.tuple _) => vcQ P H l K (setE E d (.v undef))
      | _ => False := by
  simp only [vcQ, vcQIf]
  generalize ev E (.tmp t) = z
  cases z
  case v x => cases x <;> first | rfl | (rename_i p; cases p <;> cases b <;> simp)
  all_goals rfl
theorem q_call (P : Program) (g : Nat) (args : List Operand) (d : Option Nat) (l : List CO) (K : List AV → Prop) (H : Heap) (E : List AV) : vcQ P H (⟨d, none, .call (.func g) args⟩ :: l) K E = vcQCall P g (args.map (ev E)) (vcQ P H l K) d H E := by
  simp only [vcQ, vcOp, ev, vcQCall, List.append_nil]
  apply propext
  constructor
  · rintro ⟨r, ⟨Q, h1, h2⟩, h3⟩; exact ⟨r, h1.mono h2, h3⟩
  · rintro ⟨r, h1, h3⟩; exact ⟨r, ⟨_, h1, fun _ _ h => h⟩, h3⟩
theorem q_callv (P : Program) (t : Nat) (args : List Operand) (d : Option Nat) (l : List CO) (K : List AV → Prop) (H : Heap) (E : List AV) : vcQ P H (⟨d, none, .call (.tmp t) args⟩ :: l) K E = match ev E (.tmp t) with
    | .fn g caps => vcQCall P g (args.map (ev E) ++ caps) (vcQ P H l K) d H E
    | _ => False := by
  simp only [vcQ, vcOp, vcQCall]
  generalize ev E (.tmp t) = z
  cases z
  case fn g caps =>
    apply propext
    constructor
    · rintro ⟨r, ⟨Q, h1, h2⟩, h3⟩; exact ⟨r, h1.mono h2, h3⟩
    · rintro ⟨r, h1, h3⟩; exact ⟨r, ⟨_, h1, fun _ _ h => h⟩, h3⟩
  all_goals simp
attribute [irreducible] vc
end Go.Abs
