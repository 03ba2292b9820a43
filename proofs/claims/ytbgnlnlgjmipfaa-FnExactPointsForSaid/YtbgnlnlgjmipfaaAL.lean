/- Regions whose order the machine draws, with operations that change what is ours: each order of these is looked at. Laws of the model alone. -/
import Derived.Test.YtbgnlnlgjmipfaaA14
set_option linter.unusedVariables false
namespace Go.Abs

/-- Operations that neither read nor change blocks. -/
def MOp.plain : MOp → Bool
  | .mv _ | .pick _ _ _ | .not _ | .neg _ | .bin _ _ _ _ | .build _ _ | .ext _ _ | .fld _ _ _ _ | .conv _ _ | .len _ _ | .mn _ _ | .mx _ _ | .mkf _ _ | .idx _ _ | .sstr _ _ _ | .fa _ _ | .nilck _ => true
  | _ => false
def MOp.makes : MOp → Bool
  | .alloc _ | .box _ | .lit _ _ | .store _ _ _ | .mks _ _ _ | .app _ _ _ _ => true
  | _ => false
/-- Does j write what i reads, though i does not wait for j? -/
def behind (ops : List Oper) (cs : List CO) (i j : Nat) : Bool := match ops[i]?, cs[i]?, cs[j]? with
  | some o, some c, some c' => match c'.dst with
    | some t => c.rds.contains t && !(decide (j < i) && hasEdge o j)
    | none => false
  | _, _, _ => false
/-- Is what this one reads in memory read ahead of an operation that changes it? -/
def ahead (ops : List Oper) (cs : List CO) (m i : Nat) : Bool := (List.range m).any fun k => match ops[k]?, cs[k]? with
  | some o, some c => (match c.op with
    | .store _ _ _ | .app _ _ _ _ => true
    | _ => false) && hasEdge o i
  | _, _ => false
def isLoud (ops : List Oper) (cs : List CO) (m : Nat) (L : List Nat) (j : Nat) : Bool := match ops[j]?, cs[j]? with
  | some o, some c => c.op.makes || (!c.op.plain && ahead ops cs m j) || ((List.range m).any fun i => i != j && behind ops cs i j) || L.any fun i => hasEdge o i && (match cs[i]? with
    | some c' => (match c'.dst with
      | some t => c.rds.contains t
      | none => false)
    | none => false)
  | _, _ => false
def loudIx (ops : List Oper) (cs : List CO) (m : Nat) : List Nat := (List.range m).foldl (fun L j => if isLoud ops cs m L j = true then L ++ [j] else L) []
def loudL (ops : List Oper) (cs : List CO) (m : Nat) : List (Nat × List Nat) := (loudIx ops cs m).map fun i => (i, (loudIx ops cs m).filter fun p => match ops[i]? with
  | some o => hasEdge o p
  | none => false)
def noop : CO := ⟨none, none, .mv (.const undef)⟩
def maskL (L : List (Nat × List Nat)) (cs : List CO) : List CO := (List.range cs.length).map fun i => if (L.map (·.1)).contains i then noop else cs.getD i noop
/-- The edges bear what is asked of them. -/
def loudOk (ops : List Oper) (cs : List CO) (m : Nat) (L : List (Nat × List Nat)) : Bool :=
  ((List.range m).all fun i => match ops[i]?, cs[i]? with
    | some o, some c => (List.range m).all fun j => match ops[j]?, cs[j]? with
      | some o', some c' => match c'.dst with
        | some t =>
          if (L.map (·.1)).contains i then (if (L.map (·.1)).contains j then true else !(c.dst == some t) && (!(c.rds.contains t) || hasEdge o j))
          else (if (L.map (·.1)).contains j then !(c.dst == some t) && (!(c.rds.contains t) || hasEdge o' i) else (j == i || !(c.dst == some t)) && (!(c.rds.contains t) || (decide (j < i) && hasEdge o j)))
        | none => true
      | _, _ => false
    | _, _ => false) && L.all fun l => match ops[l.1]? with
    | some o => decide (l.1 < m) && l.2.all fun p => hasEdge o p && (L.map (·.1)).contains p
    | none => false

/-- What is to be shown of the loud ones, in each order. -/
def vcL (P : Program) (J : Heap → Prop) (cs : List CO) (L : List (Nat × List Nat)) (fin : Heap → List AV → Prop) : Nat → List Nat → Heap → List AV → Prop
  | n, dn, H, E => J H ∧ if (L.all fun l => dn.contains l.1) = true then fin H E else match n with
    | 0 => False
    | n + 1 => ∀ l, l ∈ L → dn.contains l.1 = false → (l.2.all fun p => dn.contains p) = true → vcOps P [cs.getD l.1 noop] (fun H' E' => vcL P J cs L fin n (l.1 :: dn) H' E') H E

section
variable {P : Program} {H0 : Heap} {ρ0 : Nat → Bl} {w0 : World}
theorem vcOps1_congr {c : CO} {K : Heap → List AV → Prop} {H : Heap} {E E' : List AV} (h : Agree E E' c.rds) (hv : vcOps P [c] K H E) :
    vcOps P [c] (fun H' F => ∃ r, F = setE E' c.dst r ∧ K H' (setE E c.dst r)) H E' := by
  have hop : Agree E E' c.op.reads := h.left
  have key : vcOp P c.op (fun r H' => vcOps P [] K H' (setE E c.dst r)) H E → vcOp P c.op (fun r H' => vcOps P [] (fun H' F => ∃ r, F = setE E' c.dst r ∧ K H' (setE E c.dst r)) H' (setE E' c.dst r)) H E' := fun hv => by
    rw [vcOp_congr c.op hop] at hv
    exact vcOp_mono c.op (fun r H' k => ⟨r, rfl, k⟩) hv
  unfold vcOps at hv ⊢
  cases hg : c.guard with
  | none => rw [hg] at hv; exact key hv
  | some tw =>
    obtain ⟨t, b⟩ := tw
    rw [hg] at hv
    have ht : ev E (.tmp t) = ev E' (.tmp t) := h t (by simp [CO.rds, hg])
    simp only [ht] at hv ⊢
    split at hv
    · rename_i p hp
      try simp only [hp]
      exact ⟨fun e => key (hv.1 e), fun e => ⟨_, rfl, hv.2 e⟩⟩
    · rename_i vs hp
      try simp only [hp]
      exact ⟨_, rfl, hv⟩
    · exact hv.elim

theorem maskL_len (L : List (Nat × List Nat)) (cs : List CO) : (maskL L cs).length = cs.length := by simp [maskL]
theorem maskL_at {L : List (Nat × List Nat)} {cs : List CO} {i : Nat} {c : CO} (hc : cs[i]? = some c) : (maskL L cs)[i]? = some (if (L.map (·.1)).contains i then noop else c) := by
  have hi := (List.getElem?_eq_some_iff.1 hc).1
  simp only [maskL, List.getElem?_map, List.getElem?_range hi, Option.map_some, List.getD_eq_getElem?_getD, hc, Option.getD_some]
theorem vcL_J {J : Heap → Prop} {cs : List CO} {L : List (Nat × List Nat)} {fin : Heap → List AV → Prop} {n : Nat} {dn : List Nat} {H : Heap} {E : List AV} (hv : vcL P J cs L fin n dn H E) : J H := by
  unfold vcL at hv
  exact hv.1
theorem vcL_all {J : Heap → Prop} {cs : List CO} {L : List (Nat × List Nat)} {fin : Heap → List AV → Prop} {n : Nat} {dn : List Nat} {H : Heap} {E : List AV} (h : (L.all fun l => dn.contains l.1) = true) (hv : vcL P J cs L fin n dn H E) : fin H E := by
  unfold vcL at hv
  replace hv := hv.2
  rwa [if_pos h] at hv
theorem vcL_step {J : Heap → Prop} {cs : List CO} {L : List (Nat × List Nat)} {fin : Heap → List AV → Prop} {n : Nat} {dn : List Nat} {H : Heap} {E : List AV} {l : Nat × List Nat} (hl : l ∈ L) (hd : dn.contains l.1 = false) (hp : (l.2.all fun p => dn.contains p) = true) (hv : vcL P J cs L fin n dn H E) :
    ∃ n', vcOps P [cs.getD l.1 noop] (fun H' E' => vcL P J cs L fin n' (l.1 :: dn) H' E') H E := by
  unfold vcL at hv
  replace hv := hv.2
  rw [if_neg (fun h => by have := List.all_eq_true.1 h l hl; rw [hd] at this; cases this)] at hv
  cases n with
  | zero => exact hv.elim
  | succ n => exact ⟨n, hv l hl hd hp⟩

theorem loud_ok (hm : P.follows .mixedOrders = true) {ops : Array Oper} {cs : List CO} {m id : Nat} {L : List (Nat × List Nat)} {Q : Exit → Act → World → Prop} {K : Heap → List AV → Prop} (hc : compL P ops ops.toList = some cs) (he : edgesOk ops.toList = true) (ht : tailOk ops.toList m = true)
    (hq : loudOk ops.toList cs m L = true) (hmn : m ≤ ops.size) {H : Heap} {E : List AV} {a : Act} {w : World} (hs : St H0 ρ0 w0 H E a w)
    (hv : ∃ EF J, (∀ G, J G → vcQ P G (maskL L (cs.take m)) (fun E' => E' = EF) E) ∧ vcL P J cs L (vcOps P (cs.drop m) K) L.length [] H EF)
    (hQ : ∀ H' E' a' w', K H' E' → St H0 ρ0 w0 H' E' a' w' → Q .normal a' w') : (Code.region id ops true).wp P Q a w := by
  obtain ⟨hcl0, hcg⟩ := compL_get hc
  have hcl : cs.length = ops.size := hcl0.trans Array.length_toList
  obtain ⟨EF, J, hqs, hvl⟩ := hv
  rw [loudOk, Bool.and_eq_true] at hq
  obtain ⟨hq1, hq2⟩ := hq
  have hlF : EF.length = E.length := by
    obtain ⟨rs, EF', hr, hE⟩ := qrun _ _ (hqs H (vcL_J hvl))
    rw [← hE]; exact hr.len
  have isL : ∀ i, (L.map (·.1)).contains i = true ∨ (L.map (·.1)).contains i = false := fun i => by cases (L.map (·.1)).contains i <;> simp
  -- what the edges bear
  have hpair : ∀ i c j c' t o o', i < m → j < m → ops[i]? = some o → cs[i]? = some c → ops[j]? = some o' → cs[j]? = some c' → c'.dst = some t →
      (if (L.map (·.1)).contains i then (if (L.map (·.1)).contains j then true else !(c.dst == some t) && (!(c.rds.contains t) || hasEdge o j))
          else (if (L.map (·.1)).contains j then !(c.dst == some t) && (!(c.rds.contains t) || hasEdge o' i) else (j == i || !(c.dst == some t)) && (!(c.rds.contains t) || (decide (j < i) && hasEdge o j)))) = true := by
    intro i c j c' t o o' hi hj ho hci ho' hcj hd
    have h1 := List.all_eq_true.1 hq1 i (List.mem_range.2 hi)
    simp only [Array.getElem?_toList, ho, hci] at h1
    have h2 := List.all_eq_true.1 h1 j (List.mem_range.2 hj)
    simp only [Array.getElem?_toList, ho', hcj, hd] at h2
    exact h2
  have rdc : ∀ {c : CO} {t : Nat}, t ∈ c.rds → c.rds.contains t = true := fun h => by rw [List.contains_eq_mem]; simpa using h
  have key : ∀ (fuel : Nat) (listed : Array Bool) (n : Nat) (dn : List Nat) (H : Heap) (EC ES : List AV) (a : Act) (w : World), listed.size = ops.size → (∀ i, m ≤ i → i < ops.size → listed.getD i true = false) → unl ops.size listed ≤ fuel → St H0 ρ0 w0 H ES a w →
      ES.length = EF.length → EC.length = EF.length → (∀ i, i < m → (L.map (·.1)).contains i = true → listed.getD i true = dn.contains i) → vcL P J cs L (vcOps P (cs.drop m) K) n dn H EC →
      (∀ i o, i < ops.size → ops[i]? = some o → listed.getD i true = true → ∀ e ∈ o.after, Region.binds .any e = true → listed.getD e.on false = true) →
      (∀ t, (∀ i c, i < m → cs[i]? = some c → (L.map (·.1)).contains i = false → listed.getD i true = false → c.dst ≠ some t) → ES[t]? = EC[t]?) →
      (∀ t, (∀ i c, i < m → cs[i]? = some c → (L.map (·.1)).contains i = true → listed.getD i true = true → c.dst ≠ some t) → EC[t]? = EF[t]?) → wpAny P .any ops Q fuel listed a w := by
    have toTail : ∀ (fuel : Nat) (listed : Array Bool) (n : Nat) (dn : List Nat) (H : Heap) (EC ES : List AV) (a : Act) (w : World), listed.size = ops.size → (∀ i, m ≤ i → i < ops.size → listed.getD i true = false) → unl ops.size listed ≤ fuel → St H0 ρ0 w0 H ES a w →
        (∀ i, i < m → (L.map (·.1)).contains i = true → listed.getD i true = dn.contains i) → vcL P J cs L (vcOps P (cs.drop m) K) n dn H EC →
        (∀ t, (∀ i c, i < m → cs[i]? = some c → (L.map (·.1)).contains i = false → listed.getD i true = false → c.dst ≠ some t) → ES[t]? = EC[t]?) → (∀ i, i < m → listed.getD i true = true) → (∀ l, l ∈ L → l.1 < m) → wpAny P .any ops Q fuel listed a w := by
      intro fuel listed n dn H EC ES a w hsz hl hu hs hdn hvl hag hall hLm
      have hE : ES = EC := List.ext_getElem? fun t => hag t fun i c hi _ _ hf => by rw [hall i hi] at hf; cases hf
      subst hE
      have hfin : vcOps P (cs.drop m) K H ES := vcL_all (List.all_eq_true.2 fun l hl => by
        have h1 := hLm l hl
        rw [← hdn l.1 h1 (by rw [List.contains_eq_mem]; simpa using ⟨l.2, hl⟩)]
        exact hall l.1 h1) hvl
      refine tail_ok hc he ht hQ fuel m listed H ES a w hsz (fun i hi => ?_) (Nat.le_refl _) hmn hu hs hfin
      rcases Nat.lt_or_ge i m with h | h
      · rw [hall i h]; simp [h]
      · rw [hl i h hi]; simp; omega
    have hLm : ∀ l, l ∈ L → l.1 < m := fun l hl => by
      have := List.all_eq_true.1 hq2 l hl
      split at this
      · simp only [Bool.and_eq_true, decide_eq_true_eq] at this; exact this.1
      · cases this
    intro fuel
    induction fuel with
    | zero =>
      intro listed n dn H EC ES a w hsz hl hu hs hlen hlenC hdn hvl hdc hag hagF
      exact toTail 0 listed n dn H EC ES a w hsz hl hu hs hdn hvl hag (fun i hi => unl_zero (Nat.le_zero.1 hu) i (by omega)) hLm
    | succ fuel ih =>
      intro listed n dn H EC ES a w hsz hl hu hs hlen hlenC hdn hvl hdc hag hagF
      by_cases hall : ∀ i, i < m → listed.getD i true = true
      · exact toTail _ listed n dn H EC ES a w hsz hl hu hs hdn hvl hag hall hLm
      · refine ⟨fun hnil => ?_, fun i hi => ?_⟩
        · exfalso
          have hex : ∃ i, i < m ∧ listed.getD i true = false := by
            refine Classical.byContradiction fun hno => hall fun i hi => ?_
            cases hh : listed.getD i true with
            | true => rfl
            | false => exact absurd ⟨i, hi, hh⟩ hno
          have hmin : ∃ i, (i < m ∧ listed.getD i true = false) ∧ ∀ j, j < i → ¬ (j < m ∧ listed.getD j true = false) := by
            obtain ⟨i, hi⟩ := hex
            induction i using Nat.strongRecOn with
            | _ i ihi =>
              by_cases hj : ∃ j, j < i ∧ (j < m ∧ listed.getD j true = false)
              · obtain ⟨j, hji, hj⟩ := hj; exact ihi j hji hj
              · exact ⟨i, hi, fun j hji hjj => hj ⟨j, hji, hjj⟩⟩
          obtain ⟨i, ⟨him, hif⟩, hmn'⟩ := hmin
          have hin : i < ops.size := by omega
          have : i ∈ Region.ready .any ops listed := by
            refine mem_ready.2 ⟨hif, ops[i], Array.getElem?_eq_getElem hin, fun e hem hb => ?_⟩
            have hlt := list_edges he (Array.getElem?_eq_getElem hin) e hem hb
            have h1 := hmn' e.on hlt
            cases hh : listed.getD e.on true with
            | true =>
              rw [Array.getD_eq_getD_getElem?, Array.getElem?_eq_getElem (by omega)] at hh ⊢
              simpa using hh
            | false => exact absurd ⟨by omega, hh⟩ h1
          rw [hnil] at this; cases this
        · obtain ⟨h1, o, ho, hal⟩ := mem_ready.1 hi
          have hin : i < ops.size := (Array.getElem?_eq_some_iff.1 ho).1
          have toT : ∀ j, j < ops.size → listed.getD j false = true → listed.getD j true = true := fun j hj h => by
            rw [Array.getD_eq_getD_getElem?, Array.getElem?_eq_getElem (by omega)] at h ⊢
            simpa using h
          have him : i < m := by
            rcases Nat.lt_or_ge i m with h | h
            · exact h
            · exfalso
              apply hall
              intro j hj
              have := List.all_eq_true.1 ht i (List.mem_range.2 (by simpa using hin))
              simp only [Array.getElem?_toList, ho, Bool.or_eq_true, decide_eq_true_eq] at this
              rcases this with h' | h'
              · omega
              · exact toT j (by omega) (edge_listed (List.all_eq_true.1 h' j (List.mem_range.2 (by omega))) hal)
          have hci : i < cs.length := by omega
          have hcc : cs[i]? = some cs[i] := List.getElem?_eq_getElem hci
          generalize cs[i] = c at hcc
          have hcomp := hcg i o c (by simpa using ho) hcc
          have opAt : ∀ j (hj : j < m), ops[j]? = some (ops[j]'(by omega)) := fun j hj => Array.getElem?_eq_getElem (by omega)
          have setT : ∀ j, listed.getD j false = true → (listed.setIfInBounds i true).getD j false = true := fun j h => by
            by_cases e : i = j
            · subst e; rw [Array.getD_eq_getD_getElem?, Array.getElem?_setIfInBounds_self_of_lt (by omega)]; rfl
            · rw [getD_set_ne false e]; exact h
          have setM : ∀ j, listed.getD j true = true → (listed.setIfInBounds i true).getD j true = true := fun j h => by
            by_cases e : i = j
            · subst e; rw [Array.getD_eq_getD_getElem?, Array.getElem?_setIfInBounds_self_of_lt (by omega)]; rfl
            · rw [getD_set_ne true e]; exact h
          have setS : (listed.setIfInBounds i true).getD i true = true := by rw [Array.getD_eq_getD_getElem?, Array.getElem?_setIfInBounds_self_of_lt (by omega)]; rfl
          have hdc' : ∀ k o', k < ops.size → ops[k]? = some o' → (listed.setIfInBounds i true).getD k true = true → ∀ e ∈ o'.after, Region.binds .any e = true → (listed.setIfInBounds i true).getD e.on false = true := by
            intro k o' hk ho' hlk e hem hb
            by_cases ek : i = k
            · subst ek; rw [ho] at ho'; cases ho'; exact setT _ (hal e hem hb)
            · rw [getD_set_ne true ek] at hlk; exact setT _ (hdc k o' hk ho' hlk e hem hb)
          rcases isL i with hL | hL
          · -- a loud one
            obtain ⟨l, hlL, hl1⟩ : ∃ l, l ∈ L ∧ l.1 = i := by
              rw [List.contains_eq_mem] at hL
              simpa using hL
            have hnd : dn.contains i = false := by rw [← hdn i him hL]; exact h1
            have hps : (l.2.all fun p => dn.contains p) = true := List.all_eq_true.2 fun p hp => by
              have h2 := List.all_eq_true.1 hq2 l hlL
              rw [hl1] at h2
              simp only [Array.getElem?_toList, ho, Bool.and_eq_true, decide_eq_true_eq, List.all_eq_true] at h2
              have h3 := h2.2 p hp
              have h4 := edge_listed h3.1 hal
              have hpm : p < m := by
                have h5 := h3.2
                rw [List.contains_eq_mem] at h5
                obtain ⟨l', hl', e⟩ : ∃ l', l' ∈ L ∧ l'.1 = p := by simpa using h5
                rw [← e]; exact hLm l' hl'
              rw [← hdn p hpm h3.2]; exact toT p (by omega) h4
            obtain ⟨n', hvo⟩ := vcL_step hlL (by rw [hl1]; exact hnd) hps hvl
            rw [hl1, show cs.getD i noop = c by rw [List.getD_eq_getElem?_getD, hcc]; rfl] at hvo
            have hread : Agree EC ES c.rds := fun t htr => by
              have e2 : ES[t]? = EC[t]? := hag t fun j c' hj hcj hjL hf hd => by
                have h5 := hpair i c j c' t o _ him hj ho hcc (opAt j hj) hcj hd
                rw [if_pos hL, if_neg (by rw [hjL]; simp)] at h5
                simp only [rdc htr, Bool.not_true, Bool.false_or, Bool.and_eq_true] at h5
                rw [toT j (by omega) (edge_listed h5.2 hal)] at hf; cases hf
              rw [List.getD_eq_getElem?_getD, List.getD_eq_getElem?_getD, e2]
            refine one_ok ho hcomp hs (vcOps1_congr hread hvo) fun H' E' a' w' hk hs' => ?_
            obtain ⟨r, rfl, hk⟩ := hk
            refine ih (listed.setIfInBounds i true) n' (i :: dn) H' (setE EC c.dst r) (setE ES c.dst r) a' w' (by simpa using hsz) (fun j hj hjn => by rw [getD_set_ne true (by omega)]; exact hl j hj hjn)
              (by have := unl_set hsz hin h1; omega) hs' (by rw [← hlen]; cases c.dst <;> simp [setE]) (by rw [← hlenC]; cases c.dst <;> simp [setE]) ?_ hk hdc' ?_ ?_
            · intro k hk hkL
              by_cases e : i = k
              · subst e; rw [setS]; simp
              · rw [getD_set_ne true e, hdn k hk hkL, List.contains_cons]
                simp [Ne.symm e]
            · intro t htt
              by_cases hd : c.dst = some t
              · rcases Nat.lt_or_ge t EF.length with htl | htl
                · rw [hd, setE_same (by omega), setE_same (by omega)]
                · rw [List.getElem?_eq_none (by rw [hd]; simp [setE]; omega), List.getElem?_eq_none (by rw [hd]; simp [setE]; omega)]
              · rw [setE_other hd, setE_other hd]
                refine hag t fun k c' hk hck hkL hf => htt k c' hk hck hkL ?_
                rw [getD_set_ne true (fun e => by subst e; rw [hL] at hkL; cases hkL)]; exact hf
            · intro t htt
              rw [setE_other (htt i c him hcc hL setS)]
              exact hagF t fun k c' hk hck hkL hf => htt k c' hk hck hkL (setM k hf)
          · -- a quiet one
            obtain ⟨rs, EG, hrun0, hEG⟩ := qrun _ _ (hqs H (vcL_J hvl))
            have hrun : QRun P H (maskL L (cs.take m)) E rs EF := hEG ▸ hrun0
            have hmk : ∀ j c' t, (maskL L (cs.take m))[j]? = some c' → c'.dst = some t → j < m ∧ (L.map (·.1)).contains j = false ∧ cs[j]? = some c' := by
              intro j c' t hj hd
              have hjl := (List.getElem?_eq_some_iff.1 hj).1
              rw [maskL_len, List.length_take] at hjl
              have hjm : j < m := by omega
              have hcj : (cs.take m)[j]? = some (cs[j]'(by omega)) := by rw [List.getElem?_take, if_pos hjm]; exact List.getElem?_eq_getElem (by omega)
              rw [maskL_at hcj] at hj
              rcases isL j with h | h
              · rw [if_pos h] at hj; cases hj; cases hd
              · rw [if_neg (by rw [h]; simp)] at hj
                cases hj
                exact ⟨hjm, h, List.getElem?_eq_getElem (by omega)⟩
            have htk : (maskL L (cs.take m))[i]? = some c := by
              rw [maskL_at (c := c) (by rw [List.getElem?_take, if_pos him]; exact hcc), if_neg (by rw [hL]; simp)]
            obtain ⟨r, Ei, hcase, hli, hag1, hag2⟩ := hrun.at_ i c htk
            have hread : Agree Ei ES c.rds := by
              intro t htr
              have e1 : EF[t]? = Ei[t]? := hag1 t fun j c' hij hcj hd => by
                obtain ⟨hjm, hjL, hcj'⟩ := hmk j c' t hcj hd
                have h5 := hpair i c j c' t o _ him hjm ho hcc (opAt j hjm) hcj' hd
                rw [if_neg (by rw [hL]; simp), if_neg (by rw [hjL]; simp)] at h5
                simp only [rdc htr, Bool.not_true, Bool.false_or, Bool.and_eq_true, decide_eq_true_eq] at h5
                omega
              have e3 : EC[t]? = EF[t]? := hagF t fun j c' hj hcj hjL hf hd => by
                have h5 := hpair i c j c' t o _ him hj ho hcc (opAt j hj) hcj hd
                rw [if_neg (by rw [hL]; simp), if_pos hjL] at h5
                simp only [rdc htr, Bool.not_true, Bool.false_or, Bool.and_eq_true] at h5
                rw [toT i hin (edge_listed h5.2 (hdc j _ (by omega) (opAt j hj) hf))] at h1; cases h1
              have e2 : ES[t]? = EC[t]? := hag t fun j c' hj hcj hjL hf hd => by
                have h5 := hpair i c j c' t o _ him hj ho hcc (opAt j hj) hcj hd
                rw [if_neg (by rw [hL]; simp), if_neg (by rw [hjL]; simp)] at h5
                simp only [rdc htr, Bool.not_true, Bool.false_or, Bool.and_eq_true, decide_eq_true_eq] at h5
                rw [toT j (by omega) (edge_listed h5.2.2 hal)] at hf; cases hf
              rw [List.getD_eq_getElem?_getD, List.getD_eq_getElem?_getD, e2, e3, e1]
            have hrop : Agree Ei ES c.op.reads := hread.left
            have hwant : wants ES c.guard = wants Ei c.guard := by
              cases hg : c.guard with
              | none => rfl
              | some tw =>
                obtain ⟨t, b⟩ := tw
                have : ev Ei (.tmp t) = ev ES (.tmp t) := hread t (by simp [CO.rds, hg])
                simp only [wants, this]
            have after : ∀ (a' : Act) (w' : World), St H0 ρ0 w0 H (setE ES c.dst r) a' w' → wpAny P .any ops Q fuel (listed.setIfInBounds i true) a' w' := by
              intro a' w' hs'
              refine ih (listed.setIfInBounds i true) n dn H EC (setE ES c.dst r) a' w' (by simpa using hsz) (fun j hj hjn => by rw [getD_set_ne true (by omega)]; exact hl j hj hjn)
                (by have := unl_set hsz hin h1; omega) hs' (by rw [← hlen]; cases c.dst <;> simp [setE]) hlenC ?_ hvl hdc' ?_ ?_
              · intro k hk hkL
                rw [getD_set_ne true (fun e => by subst e; rw [hL] at hkL; cases hkL)]; exact hdn k hk hkL
              · intro t htt
                by_cases hd : c.dst = some t
                · rcases Nat.lt_or_ge t EF.length with htl | htl
                  · have e3 : EC[t]? = EF[t]? := hagF t fun j c' hj hcj hjL hf hd' => by
                      have h5 := hpair i c j c' t o _ him hj ho hcc (opAt j hj) hcj hd'
                      rw [if_neg (by rw [hL]; simp), if_pos hjL, hd] at h5
                      simp at h5
                    rw [hd, setE_same (by omega), e3]
                    refine (hag2 t hd htl fun j c' hij hcj hd' => ?_).symm
                    obtain ⟨hjm, hjL, hcj'⟩ := hmk j c' t hcj hd'
                    have h5 := hpair i c j c' t o _ him hjm ho hcc (opAt j hjm) hcj' hd'
                    rw [if_neg (by rw [hL]; simp), if_neg (by rw [hjL]; simp), hd] at h5
                    simp at h5
                    omega
                  · rw [List.getElem?_eq_none (by rw [hd]; simp [setE]; omega), List.getElem?_eq_none (by omega)]
                · rw [setE_other hd]
                  refine hag t fun k c' hk hck hkL hf hd' => ?_
                  by_cases e : i = k
                  · subst e; rw [hcc] at hck; cases hck; exact hd hd'
                  · exact htt k c' hk hck hkL (by rw [getD_set_ne true e]; exact hf) hd'
              · intro t htt
                exact hagF t fun k c' hk hck hkL hf => htt k c' hk hck hkL (setM k hf)
            have hvop : vcOps P [c] (fun H' E' => H' = H ∧ E' = setE ES c.dst r) H ES := by
              unfold vcOps
              rcases hcase with ⟨hw, hvo⟩ | ⟨hw, hvo⟩
              · rw [vcOp_congr c.op hrop] at hvo
                have hvo' : vcOp P c.op (fun r' H' => vcOps P [] (fun H' E' => H' = H ∧ E' = setE ES c.dst r) H' (setE ES c.dst r')) H ES :=
                  vcOp_mono c.op (fun r' H' ⟨e1, e2⟩ => by subst e1; exact ⟨e2, rfl⟩) hvo
                rw [← hwant] at hw
                cases hg : c.guard with
                | none => exact hvo'
                | some tw =>
                  obtain ⟨t, b⟩ := tw
                  rw [hg] at hw
                  simp only [wants] at hw
                  split at hw
                  · rename_i p hp
                    simp only [hp]
                    simp only [Option.some.injEq, beq_iff_eq] at hw
                    exact ⟨fun _ => hvo', fun h => by rw [hw] at h; cases b <;> cases h⟩
                  · cases hw
                  · cases hw
              · subst hvo
                rw [← hwant] at hw
                cases hg : c.guard with
                | none => rw [hg] at hw; cases hw
                | some tw =>
                  obtain ⟨t, b⟩ := tw
                  rw [hg] at hw
                  simp only [wants] at hw
                  split at hw
                  · rename_i p hp
                    simp only [hp]
                    simp only [Option.some.injEq, beq_eq_false_iff_ne] at hw
                    exact ⟨fun h => absurd h hw, fun _ => ⟨rfl, rfl⟩⟩
                  · rename_i vs hp
                    simp only [hp]
                    exact ⟨rfl, rfl⟩
                  · cases hw
            exact one_ok ho hcomp hs hvop fun H' E' a' w' hk hs' => by
              obtain ⟨rfl, rfl⟩ := hk
              exact after a' w' hs'
  obtain ⟨rs, EG, hrun0, hEG⟩ := qrun _ _ (hqs H (vcL_J hvl))
  have hrun : QRun P H (maskL L (cs.take m)) E rs EF := hEG ▸ hrun0
  refine wp_region_any hm (key ops.size (Array.replicate ops.size false) L.length [] H EF E a _ (by simp) (fun i _ hi => by simp [hi]) ?_ hs.drew hlF.symm rfl (fun i hi _ => by simp [show i < ops.size by omega]) hvl (fun i o hi _ h => by simp [hi] at h) (fun t htt => (hrun.keeps fun o ho => ?_).symm) (fun t _ => rfl))
  · unfold unl; exact Nat.le_trans List.countP_le_length (by simp)
  · obtain ⟨j, hj, e⟩ := List.mem_iff_getElem.1 ho
    intro hd
    have hjl := hj
    rw [maskL_len, List.length_take] at hjl
    have hjm : j < m := by omega
    have hcj : (cs.take m)[j]? = some (cs[j]'(by omega)) := by rw [List.getElem?_take, if_pos hjm]; exact List.getElem?_eq_getElem (by omega)
    have ho' : (maskL L (cs.take m))[j]? = some o := by rw [← e]; exact List.getElem?_eq_getElem hj
    rw [maskL_at hcj] at ho'
    rcases isL j with h | h
    · rw [if_pos h] at ho'; cases ho'; cases hd
    · rw [if_neg (by rw [h]; simp)] at ho'
      cases ho'
      exact htt j _ hjm (List.getElem?_eq_getElem (by omega)) h (by simp [show j < ops.size by omega]) hd
/-- The same, the operations beside their places. -/
def vcM (P : Program) (J : Heap → Prop) (ls : List (Nat × List Nat × CO)) (fin : Heap → List AV → Prop) : Nat → List Nat → Heap → List AV → Prop
  | n, dn, H, E => J H ∧ if (ls.all fun l => dn.contains l.1) = true then fin H E else match n with
    | 0 => False
    | n + 1 => ∀ l, l ∈ ls → dn.contains l.1 = false → (l.2.1.all fun p => dn.contains p) = true → vcOps P [l.2.2] (fun H' E' => vcM P J ls fin n (l.1 :: dn) H' E') H E
def besides (cs : List CO) (L : List (Nat × List Nat)) : List (Nat × List Nat × CO) := L.map fun l => (l.1, l.2, cs.getD l.1 noop)
theorem vcOps1_mono {c : CO} {K K' : Heap → List AV → Prop} {H : Heap} {E : List AV} (hk : ∀ H' E', K H' E' → K' H' E') (hv : vcOps P [c] K H E) : vcOps P [c] K' H E := by
  have key : vcOp P c.op (fun r H' => vcOps P [] K H' (setE E c.dst r)) H E → vcOp P c.op (fun r H' => vcOps P [] K' H' (setE E c.dst r)) H E := fun hv => vcOp_mono c.op (fun r H' k => hk _ _ k) hv
  unfold vcOps at hv ⊢
  split at hv
  · exact key hv
  · split at hv
    · exact ⟨fun e => key (hv.1 e), fun e => hk _ _ (hv.2 e)⟩
    · exact hk _ _ hv
    · exact hv.elim
theorem vcM_vcL {J : Heap → Prop} {cs : List CO} {L : List (Nat × List Nat)} {fin : Heap → List AV → Prop} : ∀ (n : Nat) (dn : List Nat) (H : Heap) (E : List AV), vcM P J (besides cs L) fin n dn H E → vcL P J cs L fin n dn H E
  | n, dn, H, E, h => by
    have e : ((besides cs L).all fun l => dn.contains l.1) = L.all fun l => dn.contains l.1 := by simp [besides, List.all_map]; rfl
    unfold vcM at h
    unfold vcL
    rw [e] at h
    refine ⟨h.1, ?_⟩
    replace h := h.2
    split
    · rename_i h'; rwa [if_pos h'] at h
    · rename_i h'
      rw [if_neg h'] at h
      cases n with
      | zero => exact h
      | succ n =>
        intro l hl h1 h2
        exact vcOps1_mono (fun H' E' k => vcM_vcL n _ H' E' k) (h (l.1, l.2, cs.getD l.1 noop) (List.mem_map.2 ⟨l, hl, rfl⟩) h1 h2)
/-- The orders, as a tree. -/
inductive LT where
  | leaf
  | bad
  | alt (a b : LT)
  | step (c : CO) (t : LT)
def altL : List LT → LT
  | [] => .bad
  | [t] => t
  | t :: u :: l => .alt t (altL (u :: l))
def mkT (ls : List (Nat × List Nat × CO)) : Nat → List Nat → LT
  | n, dn => if (ls.all fun l => dn.contains l.1) = true then .leaf else match n with
    | 0 => .bad
    | n + 1 => altL ((ls.filter fun l => !dn.contains l.1 && l.2.1.all fun p => dn.contains p).map fun l => .step l.2.2 (mkT ls n (l.1 :: dn)))
def vcT (P : Program) (J : Heap → Prop) (fin : Heap → List AV → Prop) : LT → Heap → List AV → Prop
  | .leaf, H, E => J H ∧ fin H E
  | .bad, _, _ => False
  | .alt a b, H, E => vcT P J fin a H E ∧ vcT P J fin b H E
  | .step c t, H, E => J H ∧ vcOps P [c] (fun H' E' => vcT P J fin t H' E') H E
theorem vcT_altL {J : Heap → Prop} {fin : Heap → List AV → Prop} {H : Heap} {E : List AV} : ∀ (ts : List LT), vcT P J fin (altL ts) H E → ts ≠ [] ∧ ∀ t, t ∈ ts → vcT P J fin t H E
  | [], h => h.elim
  | [t], h => ⟨by simp, fun u hu => by rw [List.mem_singleton.1 hu]; exact h⟩
  | t :: u :: l, h => ⟨by simp, fun v hv => (List.mem_cons.1 hv).elim (fun e => by rw [e]; exact h.1) ((vcT_altL (u :: l) h.2).2 v)⟩
theorem vcT_vcM {J : Heap → Prop} {ls : List (Nat × List Nat × CO)} {fin : Heap → List AV → Prop} : ∀ (n : Nat) (dn : List Nat) (H : Heap) (E : List AV), vcT P J fin (mkT ls n dn) H E → vcM P J ls fin n dn H E
  | n, dn, H, E, h => by
    unfold mkT at h
    unfold vcM
    split at h
    · rename_i h'
      rw [if_pos h']; exact h
    · rename_i h'
      rw [if_neg h']
      cases n with
      | zero => exact h.elim
      | succ n =>
        obtain ⟨h1, h2⟩ := vcT_altL _ h
        have hJ : J H := by
          cases hm : ls.filter fun l => !dn.contains l.1 && l.2.1.all fun p => dn.contains p with
          | nil => rw [hm] at h1; exact absurd rfl h1
          | cons a t => rw [hm] at h2; exact (h2 _ (List.mem_cons_self ..)).1
        refine ⟨hJ, fun l hl h3 h4 => ?_⟩
        have h5 := (h2 _ (List.mem_map.2 ⟨l, List.mem_filter.2 ⟨hl, by rw [h3, h4]; rfl⟩, rfl⟩)).2
        exact vcOps1_mono (fun H' E' k => vcT_vcM n _ H' E' k) h5
end
end Go.Abs
