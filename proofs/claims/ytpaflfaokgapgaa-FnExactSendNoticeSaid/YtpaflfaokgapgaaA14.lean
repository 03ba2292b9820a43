/- Regions whose order the machine draws: whatever order it draws, the states are told (end). Laws of the model alone. -/
import Derived.Test.YtpaflfaokgapgaaA13
namespace Go.Abs
section
variable {P : Program} {H0 : Heap} {ρ0 : Nat → Bl} {w0 : World}

theorem St.drew {H : Heap} {E : List AV} {a : Act} {w : World} (h : St H0 ρ0 w0 H E a w) : St H0 ρ0 w0 H E a { w with drawn := w.drawn + 1 } := by
  obtain ⟨ρ, hR, hE, hN, hd⟩ := h
  have hN' : Nx H ρ w H ρ { w with drawn := w.drawn + 1 } := ⟨Nat.le_refl _, fun _ _ => rfl, rfl, rfl, rfl, Nat.le_refl _, fun _ _ _ => rfl, fun _ h => .inl h⟩
  exact ⟨ρ, hR.change hN' hR.lt (fun b x hb => .inl ⟨hb, rfl⟩) hR.inj, hN'.vrl hE, hN.trans hN', hd⟩

theorem one_ok {ops : Array Oper} {Q : Exit → Act → World → Prop} {K : Heap → List AV → Prop} {i : Nat} {o : Oper} {c : CO} {l : List CO} {H : Heap} {E : List AV} {a : Act} {w : World} {next : Act → World → Prop}
    (ho : ops[i]? = some o) (hc : compO P ops o = some c) (hs : St H0 ρ0 w0 H E a w) (hv : vcOps P (c :: l) K H E)
    (hk : ∀ H' E' a' w', vcOps P l K H' E' → St H0 ρ0 w0 H' E' a' w' → next a' w') : wpOp P ops Q i next a w := by
  unfold compO at hc
  split at hc
  · rename_i mo g hmo hg
    cases hc
    unfold vcOps at hv
    unfold wpOp
    simp only [ho]
    cases hgd : o.guard with
    | none =>
      rw [hgd] at hg
      simp only [compG, Option.some.injEq] at hg
      subst hg
      rw [if_pos (by simp [Region.wanted, hgd])]
      simp only at hv
      exact .inl (step_ok hmo hs hv fun r H' a' w' k hs' => hk _ _ _ _ k hs')
    | some jb =>
      obtain ⟨j, b⟩ := jb
      rw [hgd] at hg
      have hg0 := hg
      simp only [compG] at hg
      split at hg
      · rename_i t ht
        cases hg
        simp only at hv
        split at hv
        · rename_i p hp
          have hy := guard_ok hg0 hs hp
          by_cases hpb : p = b
          · rw [if_pos (by simp [Region.wanted, hgd, hy, hpb])]
            exact .inl (step_ok hmo hs (hv.1 hpb) fun r H' a' w' k hs' => hk _ _ _ _ k hs')
          · rw [if_neg (by simp [Region.wanted, hgd, hy, hpb])]
            exact hk _ _ _ _ (hv.2 (by cases p <;> cases b <;> simp_all)) (skip_ok hs _ _)
        · rename_i vs hp
          have hy := guard_un hg0 hs hp
          rw [if_neg (by simp [Region.wanted, hgd, hy])]
          exact hk _ _ _ _ hv (skip_ok hs _ _)
        · exact hv.elim
      · cases hg
  · cases hc

theorem list_edges {ops : Array Oper} (he : edgesOk ops.toList = true) {i : Nat} {o : Oper} (ho : ops[i]? = some o) : ∀ e ∈ o.after, Region.binds .any e = true → e.on < i := by
  have hi : i < ops.toList.length := by
    rcases Nat.lt_or_ge i ops.toList.length with h | h
    · exact h
    · rw [Array.getElem?_eq_none (by simpa using h)] at ho; cases ho
  have := List.all_eq_true.1 he i (List.mem_range.2 hi)
  simp only [Array.getElem?_toList, ho] at this
  intro e hem hb
  have := List.all_eq_true.1 this e (by simpa using hem)
  simpa [hb] using this

theorem tail_ok {ops : Array Oper} {cs : List CO} {m : Nat} {Q : Exit → Act → World → Prop} {K : Heap → List AV → Prop} (hc : compL P ops ops.toList = some cs) (he : edgesOk ops.toList = true) (ht : tailOk ops.toList m = true)
    (hQ : ∀ H' E' a' w', K H' E' → St H0 ρ0 w0 H' E' a' w' → Q .normal a' w') : ∀ (fuel k : Nat) (listed : Array Bool) (H : Heap) (E : List AV) (a : Act) (w : World), listed.size = ops.size → (∀ i, i < ops.size → listed.getD i true = decide (i < k)) → m ≤ k → k ≤ ops.size →
    unl ops.size listed ≤ fuel → St H0 ρ0 w0 H E a w → vcOps P (cs.drop k) K H E → wpAny P .any ops Q fuel listed a w := by
  obtain ⟨hcl, hcg⟩ := compL_get hc
  have fin : ∀ (k : Nat) (H : Heap) (E : List AV) (a : Act) (w : World), k = ops.size → St H0 ρ0 w0 H E a w → vcOps P (cs.drop k) K H E → Q .normal a w := fun k H E a w hk hs hv => by
    rw [List.drop_eq_nil_of_le (by rw [hcl, Array.length_toList]; omega)] at hv
    exact hQ _ _ _ _ hv hs
  have rdy : ∀ (k : Nat) (listed : Array Bool), (∀ i, i < ops.size → listed.getD i true = decide (i < k)) → listed.size = ops.size → k < ops.size → k ∈ Region.ready .any ops listed := fun k listed hl hsz hk => by
    refine mem_ready.2 ⟨by rw [hl k hk]; simp, ops[k], Array.getElem?_eq_getElem hk, fun e hem hb => ?_⟩
    have := list_edges he (Array.getElem?_eq_getElem hk) e hem hb
    have h1 := hl e.on (by omega)
    rw [Array.getD_eq_getD_getElem?, Array.getElem?_eq_getElem (by omega)] at h1 ⊢
    simpa [this] using h1
  intro fuel
  induction fuel with
  | zero =>
    intro k listed H E a w hsz hl hmk hkn hu hs hv
    have hk : k = ops.size := by
      rcases Nat.lt_or_ge k ops.size with h | h
      · have := unl_zero (Nat.le_zero.1 hu) k h
        rw [hl k h] at this; simp at this
      · omega
    refine ⟨?_, fin k H E a w hk hs hv⟩
    apply List.eq_nil_iff_forall_not_mem.2
    intro i hi
    obtain ⟨h1, o, ho, _⟩ := mem_ready.1 hi
    have hin : i < ops.size := (Array.getElem?_eq_some_iff.1 ho).1
    rw [hl i hin] at h1; simp at h1; omega
  | succ fuel ih =>
    intro k listed H E a w hsz hl hmk hkn hu hs hv
    refine ⟨fun hnil => ?_, fun i hi => ?_⟩
    · rcases Nat.lt_or_ge k ops.size with h | h
      · have := rdy k listed hl hsz h
        rw [hnil] at this; cases this
      · exact fin k H E a w (by omega) hs hv
    · obtain ⟨h1, o, ho, hall⟩ := mem_ready.1 hi
      have hin : i < ops.size := (Array.getElem?_eq_some_iff.1 ho).1
      have hki : k ≤ i := by rw [hl i hin] at h1; simp at h1; omega
      have hik : i = k := by
        rcases Nat.lt_or_ge k i with h | h
        · exfalso
          have := List.all_eq_true.1 ht i (List.mem_range.2 (by simpa using hin))
          simp only [Array.getElem?_toList, ho, Bool.or_eq_true, decide_eq_true_eq] at this
          rcases this with h' | h'
          · omega
          · have h2 := edge_listed (List.all_eq_true.1 h' k (List.mem_range.2 h)) hall
            have h3 := hl k (by omega)
            rw [Array.getD_eq_getD_getElem?, Array.getElem?_eq_getElem (by omega)] at h2 h3
            simp at h2 h3; rw [h2] at h3; cases h3
        · omega
      subst hik
      have hci : i < cs.length := by rw [hcl, Array.length_toList]; exact hin
      have hd : cs.drop i = cs[i] :: cs.drop (i + 1) := List.drop_eq_getElem_cons hci
      rw [hd] at hv
      refine one_ok ho (hcg i o cs[i] (by simpa using ho) (List.getElem?_eq_getElem hci)) hs hv fun H' E' a' w' k' hs' => ?_
      refine ih (i + 1) (listed.setIfInBounds i true) H' E' a' w' (by simpa using hsz) (fun j hj => ?_) (by omega) (by omega) ?_ hs' k'
      · by_cases e : i = j
        · subst e
          rw [Array.getD_eq_getD_getElem?, Array.getElem?_setIfInBounds_self_of_lt (by omega)]; simp
        · rw [getD_set_ne true e, hl j hj]
          simp only [decide_eq_decide]; omega
      · have := unl_set hsz hin h1; omega

theorem draw_ok (hm : P.follows .mixedOrders = true) {ops : Array Oper} {cs : List CO} {m id : Nat} {Q : Exit → Act → World → Prop} {K : Heap → List AV → Prop} (hc : compL P ops ops.toList = some cs) (he : edgesOk ops.toList = true) (ht : tailOk ops.toList m = true)
    (hq : quietOk ops.toList cs m = true) (hmn : m ≤ ops.size) {H : Heap} {E : List AV} {a : Act} {w : World} (hs : St H0 ρ0 w0 H E a w) (hv : vcQ P H (cs.take m) (vcOps P (cs.drop m) K H) E)
    (hQ : ∀ H' E' a' w', K H' E' → St H0 ρ0 w0 H' E' a' w' → Q .normal a' w') : (Code.region id ops true).wp P Q a w := by
  obtain ⟨hcl0, hcg⟩ := compL_get hc
  have hcl : cs.length = ops.size := hcl0.trans Array.length_toList
  obtain ⟨rs, EF, hrun, hfin⟩ := qrun _ _ hv
  have hlF := hrun.len
  have hqp : ∀ i c, i < m → cs[i]? = some c → ∃ o, ops[i]? = some o ∧ ∀ j c' t, j < m → cs[j]? = some c' → c'.dst = some t → (j ≠ i → c.dst ≠ some t) ∧ (t ∈ c.rds → j < i ∧ hasEdge o j = true) := by
    intro i c hi hci
    have h1 := List.all_eq_true.1 hq i (List.mem_range.2 hi)
    have hin : i < ops.size := by omega
    simp only [Array.getElem?_toList, Array.getElem?_eq_getElem hin, hci] at h1
    refine ⟨ops[i], Array.getElem?_eq_getElem hin, fun j c' t hj hcj hd => ?_⟩
    have h2 := List.all_eq_true.1 h1 j (List.mem_range.2 hj)
    simp only [hcj, hd, Bool.and_eq_true, Bool.or_eq_true, beq_iff_eq, Bool.not_eq_true', decide_eq_true_eq] at h2
    refine ⟨fun hji => ?_, fun htm => ?_⟩
    · rcases h2.1 with h | h
      · exact absurd h hji
      · intro e; rw [e] at h; simp at h
    · rcases h2.2 with h | h
      · rw [List.contains_eq_mem, decide_eq_false_iff_not] at h; exact absurd htm h
      · exact h
  -- whatever has come up, the frame is told of
  have key : ∀ (fuel : Nat) (listed : Array Bool) (ES : List AV) (a : Act) (w : World), listed.size = ops.size → (∀ i, m ≤ i → i < ops.size → listed.getD i true = false) → unl ops.size listed ≤ fuel → St H0 ρ0 w0 H ES a w →
      ES.length = EF.length → (∀ t, (∀ i c, i < m → cs[i]? = some c → listed.getD i true = false → c.dst ≠ some t) → ES[t]? = EF[t]?) → wpAny P .any ops Q fuel listed a w := by
    -- once all the quiet ones have come up
    have toTail : ∀ (fuel : Nat) (listed : Array Bool) (ES : List AV) (a : Act) (w : World), listed.size = ops.size → (∀ i, m ≤ i → i < ops.size → listed.getD i true = false) → unl ops.size listed ≤ fuel → St H0 ρ0 w0 H ES a w →
        (∀ t, (∀ i c, i < m → cs[i]? = some c → listed.getD i true = false → c.dst ≠ some t) → ES[t]? = EF[t]?) → (∀ i, i < m → listed.getD i true = true) → wpAny P .any ops Q fuel listed a w := by
      intro fuel listed ES a w hsz hl hu hs hag hall
      have hE : ES = EF := List.ext_getElem? fun t => hag t fun i c hi _ hf => by rw [hall i hi] at hf; cases hf
      subst hE
      refine tail_ok hc he ht hQ fuel m listed H ES a w hsz (fun i hi => ?_) (Nat.le_refl _) hmn hu hs hfin
      rcases Nat.lt_or_ge i m with h | h
      · rw [hall i h]; simp [h]
      · rw [hl i h hi]; simp; omega
    intro fuel
    induction fuel with
    | zero =>
      intro listed ES a w hsz hl hu hs hlen hag
      exact toTail 0 listed ES a w hsz hl hu hs hag fun i hi => unl_zero (Nat.le_zero.1 hu) i (by omega)
    | succ fuel ih =>
      intro listed ES a w hsz hl hu hs hlen hag
      by_cases hall : ∀ i, i < m → listed.getD i true = true
      · exact toTail _ listed ES a w hsz hl hu hs hag hall
      · refine ⟨fun hnil => ?_, fun i hi => ?_⟩
        · -- the first that has not come up may
          exfalso
          have hex : ∃ i, i < m ∧ listed.getD i true = false := by
            refine Classical.byContradiction fun hno => hall fun i hi => ?_
            cases hh : listed.getD i true with
            | true => rfl
            | false => exact absurd ⟨i, hi, hh⟩ hno
          have hmin : ∃ i, (i < m ∧ listed.getD i true = false) ∧ ∀ j, j < i → ¬ (j < m ∧ listed.getD j true = false) := by
            obtain ⟨i, hi⟩ := hex
            induction i using Nat.strongRecOn with
            | _ i ihi =>
              by_cases hj : ∃ j, j < i ∧ (j < m ∧ listed.getD j true = false)
              · obtain ⟨j, hji, hj⟩ := hj; exact ihi j hji hj
              · exact ⟨i, hi, fun j hji hjj => hj ⟨j, hji, hjj⟩⟩
          obtain ⟨i, ⟨him, hif⟩, hmn'⟩ := hmin
          have hin : i < ops.size := by omega
          have : i ∈ Region.ready .any ops listed := by
            refine mem_ready.2 ⟨hif, ops[i], Array.getElem?_eq_getElem hin, fun e hem hb => ?_⟩
            have hlt := list_edges he (Array.getElem?_eq_getElem hin) e hem hb
            have h1 := hmn' e.on hlt
            cases hh : listed.getD e.on true with
            | true =>
              rw [Array.getD_eq_getD_getElem?, Array.getElem?_eq_getElem (by omega)] at hh ⊢
              simpa using hh
            | false => exact absurd ⟨by omega, hh⟩ h1
          rw [hnil] at this; cases this
        · obtain ⟨h1, o, ho, hal⟩ := mem_ready.1 hi
          have hin : i < ops.size := (Array.getElem?_eq_some_iff.1 ho).1
          have him : i < m := by
            rcases Nat.lt_or_ge i m with h | h
            · exact h
            · exfalso
              apply hall
              intro j hj
              have := List.all_eq_true.1 ht i (List.mem_range.2 (by simpa using hin))
              simp only [Array.getElem?_toList, ho, Bool.or_eq_true, decide_eq_true_eq] at this
              rcases this with h' | h'
              · omega
              · have h2 := edge_listed (List.all_eq_true.1 h' j (List.mem_range.2 (by omega))) hal
                rw [Array.getD_eq_getD_getElem?, Array.getElem?_eq_getElem (by omega)] at h2 ⊢
                simpa using h2
          have hci : i < cs.length := by omega
          have hcc : cs[i]? = some cs[i] := List.getElem?_eq_getElem hci
          generalize cs[i] = c at hcc
          have htk : (cs.take m)[i]? = some c := by rw [List.getElem?_take, if_pos him]; exact hcc
          obtain ⟨o', ho', hst⟩ := hqp i c him hcc
          rw [ho] at ho'; cases ho'
          obtain ⟨r, Ei, hcase, hli, hag1, hag2⟩ := hrun.at_ i c htk
          -- what it reads has come up
          have hread : Agree Ei ES c.rds := by
            intro t htr
            have e1 : EF[t]? = Ei[t]? := hag1 t fun j c' hij hcj hd => by
              rw [List.getElem?_take] at hcj
              split at hcj
              · rename_i hjm
                have := (hst j c' t hjm hcj hd).2 htr
                omega
              · cases hcj
            have e2 : ES[t]? = EF[t]? := hag t fun j c' hjm hcj hf hd => by
              have := edge_listed ((hst j c' t hjm hcj hd).2 htr).2 hal
              rw [Array.getD_eq_getD_getElem?, Array.getElem?_eq_getElem (by omega)] at this hf
              simp at this hf; rw [this] at hf; cases hf
            rw [List.getD_eq_getElem?_getD, List.getD_eq_getElem?_getD, e2, e1]
          have hrop : Agree Ei ES c.op.reads := hread.left
          have hwant : wants ES c.guard = wants Ei c.guard := by
            cases hg : c.guard with
            | none => rfl
            | some tw =>
              obtain ⟨t, b⟩ := tw
              have : ev Ei (.tmp t) = ev ES (.tmp t) := hread t (by simp [CO.rds, hg])
              simp only [wants, this]
          have hcomp := hcg i o c (by simpa using ho) hcc
          -- behind it all goes on
          have after : ∀ (a' : Act) (w' : World), St H0 ρ0 w0 H (setE ES c.dst r) a' w' → wpAny P .any ops Q fuel (listed.setIfInBounds i true) a' w' := by
            intro a' w' hs'
            refine ih _ _ a' w' (by simpa using hsz) (fun j hj hjn => ?_) ?_ hs' (by rw [← hlen]; cases c.dst <;> simp [setE]) (fun t htt => ?_)
            · rw [getD_set_ne true (by omega)]; exact hl j hj hjn
            · have := unl_set hsz hin h1; omega
            · by_cases hd : c.dst = some t
              · rcases Nat.lt_or_ge t EF.length with htl | htl
                · rw [hd, setE_same (by omega)]
                  refine (hag2 t hd htl fun j c' hij hcj hd' => ?_).symm
                  rw [List.getElem?_take] at hcj
                  split at hcj
                  · rename_i hjm
                    exact (hst j c' t hjm hcj hd').1 (by omega) hd
                  · cases hcj
                · rw [List.getElem?_eq_none (by rw [hd]; simp [setE]; omega), List.getElem?_eq_none htl]
              · rw [setE_other hd]
                refine hag t fun j c' hjm hcj hf hd' => ?_
                by_cases e : i = j
                · subst e; rw [hcc] at hcj; cases hcj; exact hd hd'
                · exact htt j c' hjm hcj (by rw [getD_set_ne true e]; exact hf) hd'
          have hvop : vcOps P [c] (fun H' E' => H' = H ∧ E' = setE ES c.dst r) H ES := by
            unfold vcOps
            rcases hcase with ⟨hw, hvo⟩ | ⟨hw, hvo⟩
            · rw [vcOp_congr c.op hrop] at hvo
              have hvo' : vcOp P c.op (fun r' H' => vcOps P [] (fun H' E' => H' = H ∧ E' = setE ES c.dst r) H' (setE ES c.dst r')) H ES := by
                have e : (fun (r' : AV) (H' : Heap) => r' = r ∧ H' = H) = fun r' H' => r' = r ∧ H' = H := rfl
                exact vcOp_mono c.op (fun r' H' ⟨e1, e2⟩ => by subst e1; exact ⟨e2, rfl⟩) hvo
              rw [← hwant] at hw
              cases hg : c.guard with
              | none => exact hvo'
              | some tw =>
                obtain ⟨t, b⟩ := tw
                rw [hg] at hw
                simp only [wants] at hw
                split at hw
                · rename_i p hp
                  simp only [hp]
                  simp only [Option.some.injEq, beq_iff_eq] at hw
                  exact ⟨fun _ => hvo', fun h => by rw [hw] at h; cases b <;> cases h⟩
                · cases hw
                · cases hw
            · subst hvo
              rw [← hwant] at hw
              cases hg : c.guard with
              | none => rw [hg] at hw; cases hw
              | some tw =>
                obtain ⟨t, b⟩ := tw
                rw [hg] at hw
                simp only [wants] at hw
                split at hw
                · rename_i p hp
                  simp only [hp]
                  simp only [Option.some.injEq, beq_eq_false_iff_ne] at hw
                  exact ⟨fun h => absurd h hw, fun _ => ⟨rfl, rfl⟩⟩
                · rename_i vs hp
                  simp only [hp]
                  exact ⟨rfl, rfl⟩
                · cases hw
          exact one_ok ho hcomp hs hvop fun H' E' a' w' hk hs' => by
            obtain ⟨rfl, rfl⟩ := hk
            exact after a' w' hs'
  refine wp_region_any hm (key ops.size (Array.replicate ops.size false) E a _ (by simp) (fun i _ hi => by simp [hi]) ?_ hs.drew hlF.symm fun t htt => (hrun.keeps fun o ho => ?_).symm)
  · unfold unl; exact Nat.le_trans List.countP_le_length (by simp)
  · obtain ⟨j, hj, e⟩ := List.mem_iff_getElem.1 ho
    have hj' : j < m ∧ j < cs.length := by rw [List.length_take] at hj; omega
    rw [List.getElem_take] at e
    exact htt j o hj'.1 (by rw [← e]; exact List.getElem?_eq_getElem hj'.2) (by have : j < ops.size := by omega
                                                                                simp [this])
end
end Go.Abs
