/- What is shared out adds up; contracts about the points for an award. -/
import Derived.Test.YtbgnlnlgjmipfaaK4
import Derived.Test.YtbgnlnlgjmipfaaS19
set_option linter.unusedVariables false
set_option linter.unusedSimpArgs false
namespace Go.Proofs.Ytbgnlnlgjmipfaa
open Go.Abs
theorem sumI_set : ∀ (l : List Int) (k : Nat) (v : Int), l[k]? = some v → sumI (l.set k (v + 1)) = sumI l + 1
  | [], k, v, h => by simp at h
  | x :: l, 0, v, h => by
    have : x = v := by simpa using h
    subst this
    simp only [List.set_cons_zero, sumI]; omega
  | x :: l, k + 1, v, h => by
    simp only [List.set_cons_succ, sumI]
    rw [sumI_set l k v (by simpa using h)]; omega
theorem shGo_sum : ∀ (n : Nat) (ps rs : List Int), ps.length = rs.length → rs ≠ [] → (∀ v, v ∈ ps → 0 ≤ v ∧ v + n ≤ 1000000000000) →
    sumI (shGo n ps rs) = sumI ps + n ∧ ∀ v, v ∈ shGo n ps rs → 0 ≤ v ∧ v ≤ 1000000000000
  | 0, ps, rs, _, _, h => by
    rw [shGo]
    exact ⟨by omega, fun v hv => by have := h v hv; omega⟩
  | n + 1, ps, rs, hl, hne, h => by
    obtain ⟨hal, _⟩ := am_lt hne
    have hap : am rs < ps.length := by omega
    obtain ⟨v, hv⟩ : ∃ v, ps[am rs]? = some v := ⟨_, List.getElem?_eq_getElem hap⟩
    have hvb := h v (List.mem_of_getElem? hv)
    have hg : ps.getD (am rs) 0 = v := by rw [List.getD_eq_getElem?_getD, hv]; rfl
    rw [shGo, hg, w64 (by omega) (by omega)]
    obtain ⟨h1, h2⟩ := shGo_sum n (ps.set (am rs) (v + 1)) (rs.set (am rs) (-1)) (by simp [hl]) (fun e => hne (List.eq_nil_of_length_eq_zero (by have := congrArg List.length e; simpa using this))) (fun u hu => by
      rcases List.mem_or_eq_of_mem_set hu with hu | rfl
      · have := h u hu; omega
      · omega)
    exact ⟨by rw [h1, sumI_set ps _ v hv]; omega, h2⟩
theorem sumI_nonneg : ∀ (l : List Int), (∀ v, v ∈ l → 0 ≤ v) → 0 ≤ sumI l ∧ ∀ v, v ∈ l → v ≤ sumI l
  | [], _ => ⟨Int.le_refl _, fun v h => by cases h⟩
  | x :: l, h => by
    obtain ⟨h1, h2⟩ := sumI_nonneg l fun v hv => h v (List.mem_cons_of_mem _ hv)
    have hx := h x (List.mem_cons_self ..)
    refine ⟨by simp only [sumI]; omega, fun v hv => ?_⟩
    simp only [sumI]
    rcases List.mem_cons.1 hv with rfl | hv
    · omega
    · have := h2 v hv; omega
theorem sumI_parts (t W : Int) (hW : 0 < W) : ∀ (ws : List Int), W * sumI (ws.map fun w => t * w / W) + sumI (ws.map fun w => t * w % W) = t * sumI ws ∧ 0 ≤ sumI (ws.map fun w => t * w % W)
  | [] => by simp [sumI]
  | w :: ws => by
    obtain ⟨h1, h2⟩ := sumI_parts t W hW ws
    have h3 := Int.mul_ediv_add_emod (t * w) W
    have h4 := Int.emod_nonneg (t * w) (show W ≠ 0 by omega)
    simp only [List.map_cons, sumI, Int.mul_add]
    exact ⟨by omega, by omega⟩
theorem shr_sum {t : Int} {ws : List Int} (ht : 0 ≤ t ∧ t ≤ 1000000000) (hw : ∀ w, w ∈ ws → 0 ≤ w ∧ w ≤ 1000000000) (hl : ws.length ≤ 1000) (hW : sumW ws ≠ 0) :
    sumI (shr t ws) = t ∧ ∀ v, v ∈ shr t ws → 0 ≤ v ∧ v ≤ 1000000000000 := by
  obtain ⟨hs1, hs2, hs3⟩ := sumW_eq (ns := ws) (fun n hn => by have := hw n hn; omega) (by omega)
  obtain ⟨hn1, hn2⟩ := sumI_nonneg ws fun v hv => (hw v hv).1
  have hW0 : 0 < sumI ws := by omega
  obtain ⟨W, hWe⟩ : ∃ W, sumI ws = W := ⟨_, rfl⟩
  have hprod : ∀ w, w ∈ ws → 0 ≤ t * w ∧ t * w ≤ 1000000000000000000 := fun w h => by
    have h1 := hw w h
    have h4 : t * w ≤ 1000000000 * 1000000000 := Int.mul_le_mul ht.2 h1.2 h1.1 (by omega)
    exact ⟨Int.mul_nonneg ht.1 h1.1, by omega⟩
  have hpe : ∀ w, w ∈ ws → shP t W w = t * w / W ∧ 0 ≤ t * w / W ∧ t * w / W ≤ t := fun w h => by
    obtain ⟨h1, h2⟩ := hprod w h
    have h3 := Int.ediv_nonneg h1 (show 0 ≤ W by omega)
    have h4 := Int.ediv_le_self W h1
    refine ⟨?_, h3, ?_⟩
    · rw [shP, w64 (n := t * w) (by omega) (by omega), Int.tdiv_eq_ediv_of_nonneg h1, w64 (by omega) (by omega)]
    · exact Int.ediv_le_of_le_mul (by omega) (Int.mul_le_mul_of_nonneg_left (by have := hn2 w h; omega) ht.1)
  have hmap : ws.map (shP t W) = ws.map fun w => t * w / W := List.map_congr_left fun w h => (hpe w h).1
  obtain ⟨hp1, hp2⟩ := sumI_parts t W (by omega) ws
  have hpb : ∀ v, v ∈ ws.map (shP t W) → 0 ≤ v ∧ v ≤ t := fun v hv => by
    obtain ⟨w, hw', rfl⟩ := List.mem_map.1 hv
    rw [(hpe w hw').1]; exact (hpe w hw').2
  obtain ⟨hq1, hq2, hq3⟩ := sumW_eq (ns := ws.map (shP t W)) (fun n hn => by have := hpb n hn; omega) (by simp; omega)
  have hle : sumI (ws.map (shP t W)) ≤ t := by
    rw [hmap]
    have : W * sumI (ws.map fun w => t * w / W) ≤ W * t := by rw [hWe] at hp1; rw [Int.mul_comm W t]; omega
    exact Int.le_of_mul_le_mul_left this (by omega)
  have hL : shL t ws = t - sumI (ws.map (shP t W)) := by rw [shL, hs1, hWe, hq1, w64 (by omega) (by omega)]
  have hne : ws ≠ [] := fun e => hW (by rw [e]; rfl)
  have hlen : sumI (ws.map (shP t W)) ≥ 0 := hq2
  obtain ⟨hg1, hg2⟩ := shGo_sum (shL t ws).toNat (ws.map (shP t W)) (ws.map (shR t W)) (by simp) (by simpa using hne) (fun v hv => by have := hpb v hv; omega)
  rw [shr, hs1, hWe]
  exact ⟨by rw [hg1]; omega, hg2⟩
theorem sum_fold2 : ∀ (ns : List Int) (a : Int), (∀ n, n ∈ ns → 0 ≤ n ∧ n ≤ 1001000000000) → 0 ≤ a → a + 1001000000000 * ns.length ≤ 9000000000000000000 → ns.foldl (fun a n => IntKind.i64.wrap (a + n)) a = a + sumI ns
  | [], a, _, _, _ => by simp [sumI]
  | n :: ns, a, h, ha, hb => by
    have hn := h n (List.mem_cons_self ..)
    simp only [List.length_cons] at hb
    push_cast at hb
    rw [List.foldl_cons, w64 (by omega) (by omega), sum_fold2 ns (a + n) (fun m hm => h m (List.mem_cons_of_mem _ hm)) (by omega) (by omega)]
    simp only [sumI]; omega
theorem clm_b {x : Clm} (h : x.good = true) : 0 ≤ x.costs ∧ x.costs ≤ 1000000000 ∧ 0 ≤ x.merit ∧ x.merit ≤ 1000000000 := by
  simp only [Clm.good, isAmt, inR, Bool.and_eq_true, decide_eq_true_eq] at h
  have h1 : 0 ≤ x.hours * x.crew ∧ x.hours * x.crew ≤ 100000 := by
    have : x.hours * x.crew ≤ 1000 * 100 := Int.mul_le_mul (by omega) (by omega) (by omega) (by omega)
    exact ⟨Int.mul_nonneg (by omega) (by omega), by omega⟩
  have h2 : 0 ≤ x.hours * x.crew * x.danger ∧ x.hours * x.crew * x.danger ≤ 500000 := by
    have : x.hours * x.crew * x.danger ≤ 100000 * 5 := Int.mul_le_mul (by omega) (by omega) (by omega) (by omega)
    exact ⟨Int.mul_nonneg (by omega) (by omega), by omega⟩
  have e : x.merit = x.hours * x.crew * x.danger := by
    unfold Clm.merit
    rw [w64 (n := x.hours * x.crew) (by omega) (by omega), w64 (by omega) (by omega)]
  omega
theorem areClm_good {xs : List Clm} (h : areClm xs = true) : xs.length ≤ 8 ∧ ∀ x, x ∈ xs → x.good = true := by
  simp only [areClm, chk_eq, Bool.and_eq_true, decide_eq_true_eq, List.all_eq_true] at h
  exact ⟨by omega, h.1.1⟩
def most (xs : List Clm) : Int := bif decide (sumW (xs.map Clm.merit) > 0) then 1000000000 else sumW (xs.map Clm.costs)
theorem sum_addZ : ∀ (a b : List Int), a.length = b.length → (∀ v, v ∈ a → 0 ≤ v ∧ v ≤ 1000000000) → (∀ v, v ∈ b → 0 ≤ v ∧ v ≤ 1000000000000) → sumI (addZ a b) = sumI a + sumI b ∧ ∀ v, v ∈ addZ a b → 0 ≤ v ∧ v ≤ 1001000000000
  | [], [], _, _, _ => ⟨rfl, fun v h => by cases h⟩
  | x :: a, [], h, _, _ => by simp at h
  | [], y :: b, h, _, _ => by simp at h
  | x :: a, y :: b, h, ha, hb => by
    obtain ⟨h1, h2⟩ := sum_addZ a b (by simpa using h) (fun v hv => ha v (List.mem_cons_of_mem _ hv)) (fun v hv => hb v (List.mem_cons_of_mem _ hv))
    have hx := ha x (List.mem_cons_self ..)
    have hy := hb y (List.mem_cons_self ..)
    have e : addZ (x :: a) (y :: b) = (x + y) :: addZ a b := by
      unfold addZ; rw [List.zipWith_cons_cons, w64 (by omega) (by omega)]
    rw [e]
    refine ⟨by simp only [sumI]; omega, fun v hv => ?_⟩
    rcases List.mem_cons.1 hv with rfl | hv
    · omega
    · exact h2 v hv
/-- An award adds up to the fund, or to what there is to be had. -/
theorem awd_sum {xs : List Clm} (ha : areClm xs = true) {f : Int} (hf : 0 ≤ f ∧ f ≤ 1000000000) : sumW (awd xs f) = if most xs < f then most xs else f := by
  obtain ⟨hl, hg⟩ := areClm_good ha
  have hCb : ∀ v, v ∈ xs.map Clm.costs → 0 ≤ v ∧ v ≤ 1000000000 := fun v hv => by
    obtain ⟨x, hx, rfl⟩ := List.mem_map.1 hv
    have := clm_b (hg x hx); omega
  have hRb : ∀ v, v ∈ xs.map Clm.merit → 0 ≤ v ∧ v ≤ 1000000000 := fun v hv => by
    obtain ⟨x, hx, rfl⟩ := List.mem_map.1 hv
    have := clm_b (hg x hx); omega
  obtain ⟨hC1, hC2, hC3⟩ := sumW_eq (ns := xs.map Clm.costs) (fun n hn => by have := hCb n hn; omega) (by simp; omega)
  obtain ⟨hR1, hR2, hR3⟩ := sumW_eq (ns := xs.map Clm.merit) (fun n hn => by have := hRb n hn; omega) (by simp; omega)
  have hwide : ∀ (l : List Int) (s : Int), sumI l = s → (∀ v, v ∈ l → 0 ≤ v ∧ v ≤ 1001000000000) → l.length ≤ 8 → sumW l = s := fun l s h1 h2 h3 => by
    have := sum_fold2 l 0 h2 (Int.le_refl _) (by omega)
    unfold sumW; rw [this, Int.zero_add, h1]
  unfold awd most
  by_cases h1 : sumW (xs.map Clm.costs) > f
  · rw [decT h1, cond_true]
    obtain ⟨s1, s2⟩ := shr_sum hf hCb (by simp; omega) (by omega)
    rw [hwide _ _ s1 (fun v hv => by have := s2 v hv; omega) (by rw [shr_len]; simp; omega)]
    cases decide (sumW (xs.map Clm.merit) > 0)
    · rw [cond_false, if_neg (by omega)]
    · rw [cond_true, if_neg (by omega)]
  · rw [decF h1, cond_false]
    by_cases h2 : sumW (xs.map Clm.merit) = 0
    · rw [decF (show ¬ sumW (xs.map Clm.merit) > 0 by omega), cond_false]
      have : (sumW (xs.map Clm.merit) == 0) = true := by simp [h2]
      rw [this, cond_true]
      split <;> omega
    · rw [decT (show sumW (xs.map Clm.merit) > 0 by omega), cond_true]
      have : (sumW (xs.map Clm.merit) == 0) = false := by simp [h2]
      rw [this, cond_false, w64 (by omega) (by omega)]
      obtain ⟨s1, s2⟩ := shr_sum (t := f - sumW (xs.map Clm.costs)) ⟨by omega, by omega⟩ hRb (by simp; omega) h2
      obtain ⟨z1, z2⟩ := sum_addZ (xs.map Clm.costs) (shr (f - sumW (xs.map Clm.costs)) (xs.map Clm.merit)) (by rw [shr_len]; simp) hCb s2
      rw [hwide _ _ z1 z2 (by simp [addZ, shr_len]; omega), s1, if_neg (by omega)]
      omega
def fnd (sv p : Int) : Int := sv * p / 10000
def gP (xs : List Clm) (sv p : Int) : Int := if most xs < fnd sv p then most xs else fnd sv p
def lp (g : Int → Int) (a : Int) : Nat → Int → Int × Int
  | 0, _ => (0, 4)
  | n + 1, p => if g p ≥ a then (p, 0) else lp g a n (p + 1)
theorem lp_succ (g : Int → Int) (a : Int) (n : Nat) (p : Int) : lp g a (n + 1) p = if g p ≥ a then (p, 0) else lp g a n (p + 1) := rfl
theorem lp_zero (g : Int → Int) (a p : Int) : lp g a 0 p = (0, 4) := rfl
theorem lp_some (g : Int → Int) (a h : Int) (hh : g h ≥ a) : ∀ (n : Nat) (p : Int), p ≤ h → h < p + n → (∀ q, p ≤ q → q < h → ¬ g q ≥ a) → lp g a n p = (h, 0)
  | 0, p, h1, h2, _ => by omega
  | n + 1, p, h1, h2, h3 => by
    rw [lp]
    by_cases e : p = h
    · subst e; rw [if_pos hh]
    · rw [if_neg (h3 p (Int.le_refl _) (by omega)), lp_some g a h hh n (p + 1) (by omega) (by omega) fun q hq => h3 q (by omega)]
theorem lp_none (g : Int → Int) (a : Int) : ∀ (n : Nat) (p : Int), (∀ q, p ≤ q → q < p + n → ¬ g q ≥ a) → lp g a n p = (0, 4)
  | 0, _, _ => rfl
  | n + 1, p, h => by
    rw [lp, if_neg (h p (Int.le_refl _) (by omega)), lp_none g a n (p + 1) fun q hq hq' => h q (by omega) (by omega)]
def ptsT (xs : List Clm) (sv a : Int) : Int × Int := bif areClm xs then (bif isAmt sv then (bif isAmt a then lp (gP xs sv) a 10001 0 else (0, 2)) else (0, 2)) else (0, 1)
theorem fnd_b {sv p : Int} (h : 0 ≤ sv ∧ sv ≤ 1000000000) (hp : 0 ≤ p ∧ p ≤ 10000) : 0 ≤ sv * p ∧ sv * p ≤ 10000000000000 ∧ 0 ≤ fnd sv p ∧ fnd sv p ≤ 1000000000 := by
  have h1 := Int.mul_nonneg h.1 hp.1
  have h2 : sv * p ≤ 1000000000 * 10000 := Int.mul_le_mul h.2 hp.2 hp.1 (by omega)
  unfold fnd; omega
theorem gP_mono {xs : List Clm} {sv p q : Int} (h : 0 ≤ sv) (hpq : p ≤ q) : gP xs sv p ≤ gP xs sv q := by
  have h1 : sv * p ≤ sv * q := Int.mul_le_mul_of_nonneg_left hpq h
  have h2 : fnd sv p ≤ fnd sv q := Int.ediv_le_ediv (by omega) h1
  unfold gP; split <;> split <;> omega
theorem s51 (N : Nat) (xs : List Clm) (hn : xs.length ≤ 1048576) (hx : ∀ x, x ∈ xs → x.ok) (sv : Int) (hsv : -9223372036854775808 ≤ sv ∧ sv < 9223372036854775808) (a : Int) (ha0 : -9223372036854775808 ≤ a ∧ a < 9223372036854775808) :
    Runs Try.prog 51 [.ro 5 (xs.map Clm.row), .v (.int .i64 sv), .v (.int .i64 a)] (emp N) fun r H' => r = .tup [.v (.int .i64 (ptsT xs sv a).1), .v (.int .i64 (ptsT xs sv a).2)] ∧ H' = emp N := by
  refine Runs.fin0 (Q := fun r H' => r = .tup [.v (.int .i64 (ptsT xs sv a).1), .v (.int .i64 (ptsT xs sv a).2)]) ?_ (fun r H' h => by rw [h]; exact .same _ (.inl rfl)) (.tup _ (norefs_cons (.v _) (norefs_cons (.v _) norefs_nil)))
  refine C51_fn ?_
  unfold C51
  simp only [↓RP, RQ, if_true, if_false, cond_true, cond_false, vcBin, bne, ne_eq, vcRet, resAll, resA, retOf, Int.reduceEq, Int.reduceNe, Int.reduceLT, Int.reduceLE, Int.reduceGT, Int.reduceGE, Int.reduceBEq, Int.reduceBNe, Nat.reduceLT, Nat.reduceLeDiff, Nat.reduceAdd, Nat.reduceSub, Nat.reduceMul, Nat.reduceEqDiff, Nat.reduceBEq, Nat.reduceBNe, reduceCtorEq, Int.reduceNeg]
  first | refine vcCall.same (s115 N xs hn hx sv) ?_ | refine vcQCall.same (s115 N xs hn hx sv) ?_
  cases ha : areClm xs with
  | false => simp only [↓RP, RQ, if_true, if_false, cond_true, cond_false, vcBin, bne, ne_eq, vcRet, resAll, resA, retOf, Int.reduceEq, Int.reduceNe, Int.reduceLT, Int.reduceLE, Int.reduceGT, Int.reduceGE, Int.reduceBEq, Int.reduceBNe, Nat.reduceLT, Nat.reduceLeDiff, Nat.reduceAdd, Nat.reduceSub, Nat.reduceMul, Nat.reduceEqDiff, Nat.reduceBEq, Nat.reduceBNe, reduceCtorEq, Int.reduceNeg, ha, ptsT]
  | true => cases h2 : isAmt sv with
    | false => simp only [↓RP, RQ, if_true, if_false, cond_true, cond_false, vcBin, bne, ne_eq, vcRet, resAll, resA, retOf, Int.reduceEq, Int.reduceNe, Int.reduceLT, Int.reduceLE, Int.reduceGT, Int.reduceGE, Int.reduceBEq, Int.reduceBNe, Nat.reduceLT, Nat.reduceLeDiff, Nat.reduceAdd, Nat.reduceSub, Nat.reduceMul, Nat.reduceEqDiff, Nat.reduceBEq, Nat.reduceBNe, reduceCtorEq, Int.reduceNeg, ha, h2, ptsT]
    | true =>
      simp only [↓RP, RQ, if_true, if_false, cond_true, cond_false, vcBin, bne, ne_eq, vcRet, resAll, resA, retOf, Int.reduceEq, Int.reduceNe, Int.reduceLT, Int.reduceLE, Int.reduceGT, Int.reduceGE, Int.reduceBEq, Int.reduceBNe, Nat.reduceLT, Nat.reduceLeDiff, Nat.reduceAdd, Nat.reduceSub, Nat.reduceMul, Nat.reduceEqDiff, Nat.reduceBEq, Nat.reduceBNe, reduceCtorEq, Int.reduceNeg, ha, h2]
      first | refine vcCall.same (s98 N a) ?_ | refine vcQCall.same (s98 N a) ?_
      simp only [↓RP, RQ, if_true, if_false, cond_true, cond_false, vcBin, bne, ne_eq, vcRet, resAll, resA, retOf, Int.reduceEq, Int.reduceNe, Int.reduceLT, Int.reduceLE, Int.reduceGT, Int.reduceGE, Int.reduceBEq, Int.reduceBNe, Nat.reduceLT, Nat.reduceLeDiff, Nat.reduceAdd, Nat.reduceSub, Nat.reduceMul, Nat.reduceEqDiff, Nat.reduceBEq, Nat.reduceBNe, reduceCtorEq, Int.reduceNeg]
      first | refine vcIf.of (fun h3 => ?_) (fun h3 => ?_) | refine vcQIf.of (fun h3 => ?_) (fun h3 => ?_)
      · have hsb : 0 ≤ sv ∧ sv ≤ 1000000000 := by simpa only [isAmt, inR, Bool.and_eq_true, decide_eq_true_eq] using h2
        have hR : ptsT xs sv a = lp (gP xs sv) a 10001 0 := by rw [ptsT, ha, h2, h3]; rfl
        rw [hR]
        simp only [↓RP, RQ, if_true, if_false, cond_true, cond_false, vcBin, bne, ne_eq, vcRet, resAll, resA, retOf, Int.reduceEq, Int.reduceNe, Int.reduceLT, Int.reduceLE, Int.reduceGT, Int.reduceGE, Int.reduceBEq, Int.reduceBNe, Nat.reduceLT, Nat.reduceLeDiff, Nat.reduceAdd, Nat.reduceSub, Nat.reduceMul, Nat.reduceEqDiff, Nat.reduceBEq, Nat.reduceBNe, reduceCtorEq, Int.reduceNeg, h3]
        refine vcLoop.st (σ := Nat × Int × Int) (N, -1, 10001) (fun s => -1 ≤ s.2.1 ∧ s.2.1 < s.2.2 ∧ s.2.2 ≤ 10001 ∧ (∀ q, 0 ≤ q → q ≤ s.2.1 → ¬ gP xs sv q ≥ a) ∧ ∀ q, s.2.2 ≤ q → q ≤ 10000 → gP xs sv q ≥ a) (fun s => (s.2.2 - s.2.1).toNat) (fun s => hl s.1 [])
          (fun s => [.ro 5 (xs.map Clm.row), .v (.int .i64 sv), .v (.int .i64 a), .any, .any, .any, .any, .any, .any, .v (.int .i64 s.2.1), .v (.int .i64 s.2.2), .any, .any, .any, .any, .any, .any, .any, .any, .any, .any, .any, .any, .any, .any, .any, .any, .any, .any, .any, .any, .any, .any, .any, .any, .any, .any, .any, .any, .any, .any, .any, .any, .any, .any, .any, .any]) ⟨Int.le_refl _, by show (-1 : Int) < 10001; decide, Int.le_refl _, fun q h h' => by have : q ≤ -1 := h'; omega, fun q h h' => by have : (10001 : Int) ≤ q := h; omega⟩ (Dr.refl _) (by simp only [↓RP, RQ, if_true, if_false, cond_true, cond_false, vcBin, bne, ne_eq, vcRet, resAll, resA, retOf, Int.reduceEq, Int.reduceNe, Int.reduceLT, Int.reduceLE, Int.reduceGT, Int.reduceGE, Int.reduceBEq, Int.reduceBNe, Nat.reduceLT, Nat.reduceLeDiff, Nat.reduceAdd, Nat.reduceSub, Nat.reduceMul, Nat.reduceEqDiff, Nat.reduceBEq, Nat.reduceBNe, reduceCtorEq, Int.reduceNeg]) ?_
        rintro ⟨M, lo, hi⟩ ⟨h4, h5, h6, h7, h8⟩
        replace h4 : -1 ≤ lo := h4
        replace h5 : lo < hi := h5
        replace h6 : hi ≤ 10001 := h6
        replace h7 : ∀ q, 0 ≤ q → q ≤ lo → ¬ gP xs sv q ≥ a := h7
        replace h8 : ∀ q, hi ≤ q → q ≤ 10000 → gP xs sv q ≥ a := h8
        have e1 : IntKind.i64.wrap (hi - lo) = hi - lo := w64 (by omega) (by omega)
        simp only [↓RP, RQ, if_true, if_false, cond_true, cond_false, vcBin, bne, ne_eq, vcRet, resAll, resA, retOf, Int.reduceEq, Int.reduceNe, Int.reduceLT, Int.reduceLE, Int.reduceGT, Int.reduceGE, Int.reduceBEq, Int.reduceBNe, Nat.reduceLT, Nat.reduceLeDiff, Nat.reduceAdd, Nat.reduceSub, Nat.reduceMul, Nat.reduceEqDiff, Nat.reduceBEq, Nat.reduceBNe, reduceCtorEq, Int.reduceNeg, e1]
        first | refine vcIf.dec (fun h9 => ?_) (fun h9 => ?_) | refine vcQIf.dec (fun h9 => ?_) (fun h9 => ?_)
        · have e2 : IntKind.i64.wrap (lo + hi) = lo + hi := w64 (by omega) (by omega)
          obtain ⟨m, hm⟩ : ∃ m, (lo + hi) / 2 = m := ⟨_, rfl⟩
          have e3 : IntKind.i64.wrap (Int.tdiv (lo + hi) 2) = m := by rw [Int.tdiv_eq_ediv_of_nonneg (by omega), hm, w64 (by omega) (by omega)]
          have hmb : lo < m ∧ m < hi := by omega
          obtain ⟨f1, f2, f3, f4⟩ := fnd_b hsb (p := m) ⟨by omega, by omega⟩
          have e4 : IntKind.i64.wrap (sv * m) = sv * m := w64 (by omega) (by omega)
          have e5 : IntKind.i64.wrap (Int.tdiv (sv * m) 10000) = fnd sv m := by rw [Int.tdiv_eq_ediv_of_nonneg f1]; show IntKind.i64.wrap (fnd sv m) = _; exact w64 (by omega) (by omega)
          have e6 : ((2 : Int) = 0) = False := by simp
          have e7 : ((10000 : Int) = 0) = False := by simp
          have hsum := awd_sum ha (f := fnd sv m) ⟨f3, f4⟩
          simp only [↓RP, RQ, if_true, if_false, cond_true, cond_false, vcBin, bne, ne_eq, vcRet, resAll, resA, retOf, Int.reduceEq, Int.reduceNe, Int.reduceLT, Int.reduceLE, Int.reduceGT, Int.reduceGE, Int.reduceBEq, Int.reduceBNe, Nat.reduceLT, Nat.reduceLeDiff, Nat.reduceAdd, Nat.reduceSub, Nat.reduceMul, Nat.reduceEqDiff, Nat.reduceBEq, Nat.reduceBNe, reduceCtorEq, Int.reduceNeg, h9, e2, e3, e4, e5, e6, e7]
          refine vcCall.to (Got1.at (q116 _ xs hn (fnd sv m) ⟨f3, by omega⟩) (Fzl.same _) (norefs_map int1_nr _) (noros_map int1_no _)) ?_
          simp only [↓RP, RQ, if_true, if_false, cond_true, cond_false, vcBin, bne, ne_eq, vcRet, resAll, resA, retOf, Int.reduceEq, Int.reduceNe, Int.reduceLT, Int.reduceLE, Int.reduceGT, Int.reduceGE, Int.reduceBEq, Int.reduceBNe, Nat.reduceLT, Nat.reduceLeDiff, Nat.reduceAdd, Nat.reduceSub, Nat.reduceMul, Nat.reduceEqDiff, Nat.reduceBEq, Nat.reduceBNe, reduceCtorEq, Int.reduceNeg]
          first | refine vcCall.same (Runs.pure (s103 _ (awd xs (fnd sv m)) (by rw [awd_len]; exact hn)) (.cons (Fz.all (by simp only [↓RP, RQ, if_true, if_false, cond_true, cond_false, vcBin, bne, ne_eq, vcRet, resAll, resA, retOf, Int.reduceEq, Int.reduceNe, Int.reduceLT, Int.reduceLE, Int.reduceGT, Int.reduceGE, Int.reduceBEq, Int.reduceBNe, Nat.reduceLT, Nat.reduceLeDiff, Nat.reduceAdd, Nat.reduceSub, Nat.reduceMul, Nat.reduceEqDiff, Nat.reduceBEq, Nat.reduceBNe, reduceCtorEq, Int.reduceNeg]) rfl) .nil) (.v _)) ?_ | refine vcQCall.same (Runs.pure (s103 _ (awd xs (fnd sv m)) (by rw [awd_len]; exact hn)) (.cons (Fz.all (by simp only [↓RP, RQ, if_true, if_false, cond_true, cond_false, vcBin, bne, ne_eq, vcRet, resAll, resA, retOf, Int.reduceEq, Int.reduceNe, Int.reduceLT, Int.reduceLE, Int.reduceGT, Int.reduceGE, Int.reduceBEq, Int.reduceBNe, Nat.reduceLT, Nat.reduceLeDiff, Nat.reduceAdd, Nat.reduceSub, Nat.reduceMul, Nat.reduceEqDiff, Nat.reduceBEq, Nat.reduceBNe, reduceCtorEq, Int.reduceNeg]) rfl) .nil) (.v _)) ?_
          simp only [↓RP, RQ, if_true, if_false, cond_true, cond_false, vcBin, bne, ne_eq, vcRet, resAll, resA, retOf, Int.reduceEq, Int.reduceNe, Int.reduceLT, Int.reduceLE, Int.reduceGT, Int.reduceGE, Int.reduceBEq, Int.reduceBNe, Nat.reduceLT, Nat.reduceLeDiff, Nat.reduceAdd, Nat.reduceSub, Nat.reduceMul, Nat.reduceEqDiff, Nat.reduceBEq, Nat.reduceBNe, reduceCtorEq, Int.reduceNeg, hsum]
          first | refine vcIf.dec (fun h10 => ?_) (fun h10 => ?_) | refine vcQIf.dec (fun h10 => ?_) (fun h10 => ?_)
          · have hge : gP xs sv m ≥ a := h10
            simp only [↓RP, RQ, if_true, if_false, cond_true, cond_false, vcBin, bne, ne_eq, vcRet, resAll, resA, retOf, Int.reduceEq, Int.reduceNe, Int.reduceLT, Int.reduceLE, Int.reduceGT, Int.reduceGE, Int.reduceBEq, Int.reduceBNe, Nat.reduceLT, Nat.reduceLeDiff, Nat.reduceAdd, Nat.reduceSub, Nat.reduceMul, Nat.reduceEqDiff, Nat.reduceBEq, Nat.reduceBNe, reduceCtorEq, Int.reduceNeg, h10]
            exact ⟨(M + 1, lo, m), by show (m - lo).toNat < (hi - lo).toNat; omega, ⟨h4, hmb.1, by show m ≤ 10001; omega, h7, fun q hq hq' => by have := gP_mono (xs := xs) (sv := sv) hsb.1 (show m ≤ q from hq); omega⟩, by simp only [↓RP, RQ, if_true, if_false, cond_true, cond_false, vcBin, bne, ne_eq, vcRet, resAll, resA, retOf, Int.reduceEq, Int.reduceNe, Int.reduceLT, Int.reduceLE, Int.reduceGT, Int.reduceGE, Int.reduceBEq, Int.reduceBNe, Nat.reduceLT, Nat.reduceLeDiff, Nat.reduceAdd, Nat.reduceSub, Nat.reduceMul, Nat.reduceEqDiff, Nat.reduceBEq, Nat.reduceBNe, reduceCtorEq, Int.reduceNeg], by simp only [↓RP, RQ, if_true, if_false, cond_true, cond_false, vcBin, bne, ne_eq, vcRet, resAll, resA, retOf, Int.reduceEq, Int.reduceNe, Int.reduceLT, Int.reduceLE, Int.reduceGT, Int.reduceGE, Int.reduceBEq, Int.reduceBNe, Nat.reduceLT, Nat.reduceLeDiff, Nat.reduceAdd, Nat.reduceSub, Nat.reduceMul, Nat.reduceEqDiff, Nat.reduceBEq, Nat.reduceBNe, reduceCtorEq, Int.reduceNeg]⟩
          · have hlt : ¬ gP xs sv m ≥ a := h10
            simp only [↓RP, RQ, if_true, if_false, cond_true, cond_false, vcBin, bne, ne_eq, vcRet, resAll, resA, retOf, Int.reduceEq, Int.reduceNe, Int.reduceLT, Int.reduceLE, Int.reduceGT, Int.reduceGE, Int.reduceBEq, Int.reduceBNe, Nat.reduceLT, Nat.reduceLeDiff, Nat.reduceAdd, Nat.reduceSub, Nat.reduceMul, Nat.reduceEqDiff, Nat.reduceBEq, Nat.reduceBNe, reduceCtorEq, Int.reduceNeg, h10]
            exact ⟨(M + 1, m, hi), by show (hi - m).toNat < (hi - lo).toNat; omega, ⟨by show -1 ≤ m; omega, hmb.2, h6, fun q hq hq' => by have := gP_mono (xs := xs) (sv := sv) hsb.1 (show q ≤ m from hq'); omega, h8⟩, by simp only [↓RP, RQ, if_true, if_false, cond_true, cond_false, vcBin, bne, ne_eq, vcRet, resAll, resA, retOf, Int.reduceEq, Int.reduceNe, Int.reduceLT, Int.reduceLE, Int.reduceGT, Int.reduceGE, Int.reduceBEq, Int.reduceBNe, Nat.reduceLT, Nat.reduceLeDiff, Nat.reduceAdd, Nat.reduceSub, Nat.reduceMul, Nat.reduceEqDiff, Nat.reduceBEq, Nat.reduceBNe, reduceCtorEq, Int.reduceNeg], by simp only [↓RP, RQ, if_true, if_false, cond_true, cond_false, vcBin, bne, ne_eq, vcRet, resAll, resA, retOf, Int.reduceEq, Int.reduceNe, Int.reduceLT, Int.reduceLE, Int.reduceGT, Int.reduceGE, Int.reduceBEq, Int.reduceBNe, Nat.reduceLT, Nat.reduceLeDiff, Nat.reduceAdd, Nat.reduceSub, Nat.reduceMul, Nat.reduceEqDiff, Nat.reduceBEq, Nat.reduceBNe, reduceCtorEq, Int.reduceNeg]⟩
        · have hhl : hi = lo + 1 := by omega
          simp only [↓RP, RQ, if_true, if_false, cond_true, cond_false, vcBin, bne, ne_eq, vcRet, resAll, resA, retOf, Int.reduceEq, Int.reduceNe, Int.reduceLT, Int.reduceLE, Int.reduceGT, Int.reduceGE, Int.reduceBEq, Int.reduceBNe, Nat.reduceLT, Nat.reduceLeDiff, Nat.reduceAdd, Nat.reduceSub, Nat.reduceMul, Nat.reduceEqDiff, Nat.reduceBEq, Nat.reduceBNe, reduceCtorEq, Int.reduceNeg, h9]
          first | refine vcIf.dec (fun h11 => ?_) (fun h11 => ?_) | refine vcQIf.dec (fun h11 => ?_) (fun h11 => ?_)
          · have : lp (gP xs sv) a 10001 0 = (0, 4) := lp_none _ _ _ _ fun q hq hq' => h7 q hq (by omega)
            rw [this]
            simp only [↓RP, RQ, if_true, if_false, cond_true, cond_false, vcBin, bne, ne_eq, vcRet, resAll, resA, retOf, Int.reduceEq, Int.reduceNe, Int.reduceLT, Int.reduceLE, Int.reduceGT, Int.reduceGE, Int.reduceBEq, Int.reduceBNe, Nat.reduceLT, Nat.reduceLeDiff, Nat.reduceAdd, Nat.reduceSub, Nat.reduceMul, Nat.reduceEqDiff, Nat.reduceBEq, Nat.reduceBNe, reduceCtorEq, Int.reduceNeg, h11]
          · have : lp (gP xs sv) a 10001 0 = (hi, 0) := lp_some _ _ hi (h8 hi (Int.le_refl _) (by omega)) _ _ (by omega) (by omega) fun q hq hq' => h7 q hq (by omega)
            rw [this]
            simp only [↓RP, RQ, if_true, if_false, cond_true, cond_false, vcBin, bne, ne_eq, vcRet, resAll, resA, retOf, Int.reduceEq, Int.reduceNe, Int.reduceLT, Int.reduceLE, Int.reduceGT, Int.reduceGE, Int.reduceBEq, Int.reduceBNe, Nat.reduceLT, Nat.reduceLeDiff, Nat.reduceAdd, Nat.reduceSub, Nat.reduceMul, Nat.reduceEqDiff, Nat.reduceBEq, Nat.reduceBNe, reduceCtorEq, Int.reduceNeg, h11]
      · simp only [↓RP, RQ, if_true, if_false, cond_true, cond_false, vcBin, bne, ne_eq, vcRet, resAll, resA, retOf, Int.reduceEq, Int.reduceNe, Int.reduceLT, Int.reduceLE, Int.reduceGT, Int.reduceGE, Int.reduceBEq, Int.reduceBNe, Nat.reduceLT, Nat.reduceLeDiff, Nat.reduceAdd, Nat.reduceSub, Nat.reduceMul, Nat.reduceEqDiff, Nat.reduceBEq, Nat.reduceBNe, reduceCtorEq, Int.reduceNeg, h3, ptsT, ha, h2]
theorem s52 (N : Nat) (xs : List Clm) (hn : xs.length ≤ 1048576) (hx : ∀ x, x ∈ xs → x.ok) (sv : Int) (hsv : -9223372036854775808 ≤ sv ∧ sv < 9223372036854775808) (a : Int) (ha0 : -9223372036854775808 ≤ a ∧ a < 9223372036854775808) :
    Runs Try.prog 52 [.ro 5 (xs.map Clm.row), .v (.int .i64 sv), .v (.int .i64 a)] (emp N) fun r H' => r = .tup [.v (.int .i64 (ptsT xs sv a).1), .v (.int .i64 (ptsT xs sv a).2)] ∧ H' = emp N := by
  refine Runs.fin0 (Q := fun r H' => r = .tup [.v (.int .i64 (ptsT xs sv a).1), .v (.int .i64 (ptsT xs sv a).2)]) ?_ (fun r H' h => by rw [h]; exact .same _ (.inl rfl)) (.tup _ (norefs_cons (.v _) (norefs_cons (.v _) norefs_nil)))
  refine C52_fn ?_
  unfold C52
  simp only [↓RP, RQ, if_true, if_false, cond_true, cond_false, vcBin, bne, ne_eq, vcRet, resAll, resA, retOf, Int.reduceEq, Int.reduceNe, Int.reduceLT, Int.reduceLE, Int.reduceGT, Int.reduceGE, Int.reduceBEq, Int.reduceBNe, Nat.reduceLT, Nat.reduceLeDiff, Nat.reduceAdd, Nat.reduceSub, Nat.reduceMul, Nat.reduceEqDiff, Nat.reduceBEq, Nat.reduceBNe, reduceCtorEq, Int.reduceNeg]
  first | refine vcCall.same (s117 N xs hn hx sv) ?_ | refine vcQCall.same (s117 N xs hn hx sv) ?_
  cases ha : areClm xs with
  | false => simp only [↓RP, RQ, if_true, if_false, cond_true, cond_false, vcBin, bne, ne_eq, vcRet, resAll, resA, retOf, Int.reduceEq, Int.reduceNe, Int.reduceLT, Int.reduceLE, Int.reduceGT, Int.reduceGE, Int.reduceBEq, Int.reduceBNe, Nat.reduceLT, Nat.reduceLeDiff, Nat.reduceAdd, Nat.reduceSub, Nat.reduceMul, Nat.reduceEqDiff, Nat.reduceBEq, Nat.reduceBNe, reduceCtorEq, Int.reduceNeg, ha, ptsT]
  | true => cases h2 : isAmt sv with
    | false => simp only [↓RP, RQ, if_true, if_false, cond_true, cond_false, vcBin, bne, ne_eq, vcRet, resAll, resA, retOf, Int.reduceEq, Int.reduceNe, Int.reduceLT, Int.reduceLE, Int.reduceGT, Int.reduceGE, Int.reduceBEq, Int.reduceBNe, Nat.reduceLT, Nat.reduceLeDiff, Nat.reduceAdd, Nat.reduceSub, Nat.reduceMul, Nat.reduceEqDiff, Nat.reduceBEq, Nat.reduceBNe, reduceCtorEq, Int.reduceNeg, ha, h2, ptsT]
    | true =>
      simp only [↓RP, RQ, if_true, if_false, cond_true, cond_false, vcBin, bne, ne_eq, vcRet, resAll, resA, retOf, Int.reduceEq, Int.reduceNe, Int.reduceLT, Int.reduceLE, Int.reduceGT, Int.reduceGE, Int.reduceBEq, Int.reduceBNe, Nat.reduceLT, Nat.reduceLeDiff, Nat.reduceAdd, Nat.reduceSub, Nat.reduceMul, Nat.reduceEqDiff, Nat.reduceBEq, Nat.reduceBNe, reduceCtorEq, Int.reduceNeg, ha, h2]
      first | refine vcCall.same (s100 N a) ?_ | refine vcQCall.same (s100 N a) ?_
      simp only [↓RP, RQ, if_true, if_false, cond_true, cond_false, vcBin, bne, ne_eq, vcRet, resAll, resA, retOf, Int.reduceEq, Int.reduceNe, Int.reduceLT, Int.reduceLE, Int.reduceGT, Int.reduceGE, Int.reduceBEq, Int.reduceBNe, Nat.reduceLT, Nat.reduceLeDiff, Nat.reduceAdd, Nat.reduceSub, Nat.reduceMul, Nat.reduceEqDiff, Nat.reduceBEq, Nat.reduceBNe, reduceCtorEq, Int.reduceNeg]
      first | refine vcIf.of (fun h3 => ?_) (fun h3 => ?_) | refine vcQIf.of (fun h3 => ?_) (fun h3 => ?_)
      · have hsb : 0 ≤ sv ∧ sv ≤ 1000000000 := by simpa only [isAmt, inR, Bool.and_eq_true, decide_eq_true_eq] using h2
        have hR : ptsT xs sv a = lp (gP xs sv) a 10001 0 := by rw [ptsT, ha, h2, h3]; rfl
        rw [hR]
        simp only [↓RP, RQ, if_true, if_false, cond_true, cond_false, vcBin, bne, ne_eq, vcRet, resAll, resA, retOf, Int.reduceEq, Int.reduceNe, Int.reduceLT, Int.reduceLE, Int.reduceGT, Int.reduceGE, Int.reduceBEq, Int.reduceBNe, Nat.reduceLT, Nat.reduceLeDiff, Nat.reduceAdd, Nat.reduceSub, Nat.reduceMul, Nat.reduceEqDiff, Nat.reduceBEq, Nat.reduceBNe, reduceCtorEq, Int.reduceNeg, h3]
        refine vcCall.to (Got1.at (q119 _ xs hn) (Fzl.same _) (norefs_map int1_nr _) (noros_map int1_no _)) ?_
        simp only [↓RP, RQ, if_true, if_false, cond_true, cond_false, vcBin, bne, ne_eq, vcRet, resAll, resA, retOf, Int.reduceEq, Int.reduceNe, Int.reduceLT, Int.reduceLE, Int.reduceGT, Int.reduceGE, Int.reduceBEq, Int.reduceBNe, Nat.reduceLT, Nat.reduceLeDiff, Nat.reduceAdd, Nat.reduceSub, Nat.reduceMul, Nat.reduceEqDiff, Nat.reduceBEq, Nat.reduceBNe, reduceCtorEq, Int.reduceNeg]
        first | refine vcCall.same (Runs.pure (s118 _ (xs.map Clm.costs) (by simp; omega)) (.cons (Fz.all (by simp only [↓RP, RQ, if_true, if_false, cond_true, cond_false, vcBin, bne, ne_eq, vcRet, resAll, resA, retOf, Int.reduceEq, Int.reduceNe, Int.reduceLT, Int.reduceLE, Int.reduceGT, Int.reduceGE, Int.reduceBEq, Int.reduceBNe, Nat.reduceLT, Nat.reduceLeDiff, Nat.reduceAdd, Nat.reduceSub, Nat.reduceMul, Nat.reduceEqDiff, Nat.reduceBEq, Nat.reduceBNe, reduceCtorEq, Int.reduceNeg]) rfl) .nil) (.v _)) ?_ | refine vcQCall.same (Runs.pure (s118 _ (xs.map Clm.costs) (by simp; omega)) (.cons (Fz.all (by simp only [↓RP, RQ, if_true, if_false, cond_true, cond_false, vcBin, bne, ne_eq, vcRet, resAll, resA, retOf, Int.reduceEq, Int.reduceNe, Int.reduceLT, Int.reduceLE, Int.reduceGT, Int.reduceGE, Int.reduceBEq, Int.reduceBNe, Nat.reduceLT, Nat.reduceLeDiff, Nat.reduceAdd, Nat.reduceSub, Nat.reduceMul, Nat.reduceEqDiff, Nat.reduceBEq, Nat.reduceBNe, reduceCtorEq, Int.reduceNeg]) rfl) .nil) (.v _)) ?_
        simp only [↓RP, RQ, if_true, if_false, cond_true, cond_false, vcBin, bne, ne_eq, vcRet, resAll, resA, retOf, Int.reduceEq, Int.reduceNe, Int.reduceLT, Int.reduceLE, Int.reduceGT, Int.reduceGE, Int.reduceBEq, Int.reduceBNe, Nat.reduceLT, Nat.reduceLeDiff, Nat.reduceAdd, Nat.reduceSub, Nat.reduceMul, Nat.reduceEqDiff, Nat.reduceBEq, Nat.reduceBNe, reduceCtorEq, Int.reduceNeg]
        refine vcCall.to (Got1.at (q120 _ xs hn) (Fzl.same _) (norefs_map int1_nr _) (noros_map int1_no _)) ?_
        simp only [↓RP, RQ, if_true, if_false, cond_true, cond_false, vcBin, bne, ne_eq, vcRet, resAll, resA, retOf, Int.reduceEq, Int.reduceNe, Int.reduceLT, Int.reduceLE, Int.reduceGT, Int.reduceGE, Int.reduceBEq, Int.reduceBNe, Nat.reduceLT, Nat.reduceLeDiff, Nat.reduceAdd, Nat.reduceSub, Nat.reduceMul, Nat.reduceEqDiff, Nat.reduceBEq, Nat.reduceBNe, reduceCtorEq, Int.reduceNeg]
        first | refine vcCall.same (Runs.pure (s118 _ (xs.map Clm.merit) (by simp; omega)) (.cons (Fz.all (by simp only [↓RP, RQ, if_true, if_false, cond_true, cond_false, vcBin, bne, ne_eq, vcRet, resAll, resA, retOf, Int.reduceEq, Int.reduceNe, Int.reduceLT, Int.reduceLE, Int.reduceGT, Int.reduceGE, Int.reduceBEq, Int.reduceBNe, Nat.reduceLT, Nat.reduceLeDiff, Nat.reduceAdd, Nat.reduceSub, Nat.reduceMul, Nat.reduceEqDiff, Nat.reduceBEq, Nat.reduceBNe, reduceCtorEq, Int.reduceNeg]) rfl) .nil) (.v _)) ?_ | refine vcQCall.same (Runs.pure (s118 _ (xs.map Clm.merit) (by simp; omega)) (.cons (Fz.all (by simp only [↓RP, RQ, if_true, if_false, cond_true, cond_false, vcBin, bne, ne_eq, vcRet, resAll, resA, retOf, Int.reduceEq, Int.reduceNe, Int.reduceLT, Int.reduceLE, Int.reduceGT, Int.reduceGE, Int.reduceBEq, Int.reduceBNe, Nat.reduceLT, Nat.reduceLeDiff, Nat.reduceAdd, Nat.reduceSub, Nat.reduceMul, Nat.reduceEqDiff, Nat.reduceBEq, Nat.reduceBNe, reduceCtorEq, Int.reduceNeg]) rfl) .nil) (.v _)) ?_
        simp only [↓RP, RQ, if_true, if_false, cond_true, cond_false, vcBin, bne, ne_eq, vcRet, resAll, resA, retOf, Int.reduceEq, Int.reduceNe, Int.reduceLT, Int.reduceLE, Int.reduceGT, Int.reduceGE, Int.reduceBEq, Int.reduceBNe, Nat.reduceLT, Nat.reduceLeDiff, Nat.reduceAdd, Nat.reduceSub, Nat.reduceMul, Nat.reduceEqDiff, Nat.reduceBEq, Nat.reduceBNe, reduceCtorEq, Int.reduceNeg]
        first | refine vcIf.dec (fun h12 => ?_) (fun h12 => ?_) | refine vcQIf.dec (fun h12 => ?_) (fun h12 => ?_)
        · have hms : (1000000000 : Int) = most xs := by unfold most; rw [decT h12]; rfl
          simp only [↓RP, RQ, if_true, if_false, cond_true, cond_false, vcBin, bne, ne_eq, vcRet, resAll, resA, retOf, Int.reduceEq, Int.reduceNe, Int.reduceLT, Int.reduceLE, Int.reduceGT, Int.reduceGE, Int.reduceBEq, Int.reduceBNe, Nat.reduceLT, Nat.reduceLeDiff, Nat.reduceAdd, Nat.reduceSub, Nat.reduceMul, Nat.reduceEqDiff, Nat.reduceBEq, Nat.reduceBNe, reduceCtorEq, Int.reduceNeg, h12]
          refine vcLoop.st (σ := Nat) 0 (fun p => p ≤ 10001 ∧ lp (gP xs sv) a 10001 0 = lp (gP xs sv) a (10001 - p) p) (fun p => 10001 - p) (fun _ => hl (N + 2) [])
            (fun p => [.any, .v (.int .i64 sv), .v (.int .i64 a), .any, .any, .any, .any, .any, .any, .v (.int .i64 (most xs)), .v (.int .i64 p), .any, .any, .any, .any, .any, .any, .any, .any, .any, .any, .any, .any, .any, .any, .any, .any, .any, .any, .any, .any, .any, .any, .any, .any, .any, .any, .any, .any, .any]) ⟨Nat.zero_le _, rfl⟩ (by simp only [↓RP, RQ, if_true, if_false, cond_true, cond_false, vcBin, bne, ne_eq, vcRet, resAll, resA, retOf, Int.reduceEq, Int.reduceNe, Int.reduceLT, Int.reduceLE, Int.reduceGT, Int.reduceGE, Int.reduceBEq, Int.reduceBNe, Nat.reduceLT, Nat.reduceLeDiff, Nat.reduceAdd, Nat.reduceSub, Nat.reduceMul, Nat.reduceEqDiff, Nat.reduceBEq, Nat.reduceBNe, reduceCtorEq, Int.reduceNeg]) (by simp only [↓RP, RQ, if_true, if_false, cond_true, cond_false, vcBin, bne, ne_eq, vcRet, resAll, resA, retOf, Int.reduceEq, Int.reduceNe, Int.reduceLT, Int.reduceLE, Int.reduceGT, Int.reduceGE, Int.reduceBEq, Int.reduceBNe, Nat.reduceLT, Nat.reduceLeDiff, Nat.reduceAdd, Nat.reduceSub, Nat.reduceMul, Nat.reduceEqDiff, Nat.reduceBEq, Nat.reduceBNe, reduceCtorEq, Int.reduceNeg, hms]) ?_
          rintro p ⟨hp, hg⟩
          simp only [↓RP, RQ, if_true, if_false, cond_true, cond_false, vcBin, bne, ne_eq, vcRet, resAll, resA, retOf, Int.reduceEq, Int.reduceNe, Int.reduceLT, Int.reduceLE, Int.reduceGT, Int.reduceGE, Int.reduceBEq, Int.reduceBNe, Nat.reduceLT, Nat.reduceLeDiff, Nat.reduceAdd, Nat.reduceSub, Nat.reduceMul, Nat.reduceEqDiff, Nat.reduceBEq, Nat.reduceBNe, reduceCtorEq, Int.reduceNeg]
          first | refine vcIf.dec (fun h9 => ?_) (fun h9 => ?_) | refine vcQIf.dec (fun h9 => ?_) (fun h9 => ?_)
          · have hp' : p ≤ 10000 := by omega
            obtain ⟨f1, f2, f3, f4⟩ := fnd_b hsb (p := p) ⟨by omega, by omega⟩
            have e4 : IntKind.i64.wrap (sv * p) = sv * p := w64 (by omega) (by omega)
            have e5 : IntKind.i64.wrap (Int.tdiv (sv * p) 10000) = fnd sv p := by rw [Int.tdiv_eq_ediv_of_nonneg f1]; show IntKind.i64.wrap (fnd sv p) = _; exact w64 (by omega) (by omega)
            have e7 : ((10000 : Int) = 0) = False := by simp
            rw [show 10001 - p = (10001 - (p + 1)) + 1 by omega] at hg
            replace hg := hg.trans (lp_succ (gP xs sv) a (10001 - (p + 1)) p)
            simp only [↓RP, RQ, if_true, if_false, cond_true, cond_false, vcBin, bne, ne_eq, vcRet, resAll, resA, retOf, Int.reduceEq, Int.reduceNe, Int.reduceLT, Int.reduceLE, Int.reduceGT, Int.reduceGE, Int.reduceBEq, Int.reduceBNe, Nat.reduceLT, Nat.reduceLeDiff, Nat.reduceAdd, Nat.reduceSub, Nat.reduceMul, Nat.reduceEqDiff, Nat.reduceBEq, Nat.reduceBNe, reduceCtorEq, Int.reduceNeg, h9, e4, e5, e7]
            first | refine vcIf.dec (fun h10 => ?_) (fun h10 => ?_) | refine vcQIf.dec (fun h10 => ?_) (fun h10 => ?_)
            · have hge : gP xs sv p ≥ a := h10
              rw [if_pos hge] at hg
              rw [hg]
              simp only [↓RP, RQ, if_true, if_false, cond_true, cond_false, vcBin, bne, ne_eq, vcRet, resAll, resA, retOf, Int.reduceEq, Int.reduceNe, Int.reduceLT, Int.reduceLE, Int.reduceGT, Int.reduceGE, Int.reduceBEq, Int.reduceBNe, Nat.reduceLT, Nat.reduceLeDiff, Nat.reduceAdd, Nat.reduceSub, Nat.reduceMul, Nat.reduceEqDiff, Nat.reduceBEq, Nat.reduceBNe, reduceCtorEq, Int.reduceNeg, h10]
            · have hlt : ¬ gP xs sv p ≥ a := h10
              rw [if_neg hlt] at hg
              simp only [↓RP, RQ, if_true, if_false, cond_true, cond_false, vcBin, bne, ne_eq, vcRet, resAll, resA, retOf, Int.reduceEq, Int.reduceNe, Int.reduceLT, Int.reduceLE, Int.reduceGT, Int.reduceGE, Int.reduceBEq, Int.reduceBNe, Nat.reduceLT, Nat.reduceLeDiff, Nat.reduceAdd, Nat.reduceSub, Nat.reduceMul, Nat.reduceEqDiff, Nat.reduceBEq, Nat.reduceBNe, reduceCtorEq, Int.reduceNeg, h10, w_succ (show p < 100000 by omega) (by decide)]
              exact ⟨p + 1, by omega, ⟨by omega, hg⟩, by simp only [↓RP, RQ, if_true, if_false, cond_true, cond_false, vcBin, bne, ne_eq, vcRet, resAll, resA, retOf, Int.reduceEq, Int.reduceNe, Int.reduceLT, Int.reduceLE, Int.reduceGT, Int.reduceGE, Int.reduceBEq, Int.reduceBNe, Nat.reduceLT, Nat.reduceLeDiff, Nat.reduceAdd, Nat.reduceSub, Nat.reduceMul, Nat.reduceEqDiff, Nat.reduceBEq, Nat.reduceBNe, reduceCtorEq, Int.reduceNeg]⟩
          · have hp' : p = 10001 := by omega
            subst hp'
            rw [Nat.sub_self] at hg
            replace hg := hg.trans (lp_zero (gP xs sv) a _)
            rw [hg]
            simp only [↓RP, RQ, if_true, if_false, cond_true, cond_false, vcBin, bne, ne_eq, vcRet, resAll, resA, retOf, Int.reduceEq, Int.reduceNe, Int.reduceLT, Int.reduceLE, Int.reduceGT, Int.reduceGE, Int.reduceBEq, Int.reduceBNe, Nat.reduceLT, Nat.reduceLeDiff, Nat.reduceAdd, Nat.reduceSub, Nat.reduceMul, Nat.reduceEqDiff, Nat.reduceBEq, Nat.reduceBNe, reduceCtorEq, Int.reduceNeg, h9]
        · have hms : sumW (xs.map Clm.costs) = most xs := by unfold most; rw [decF h12]; rfl
          simp only [↓RP, RQ, if_true, if_false, cond_true, cond_false, vcBin, bne, ne_eq, vcRet, resAll, resA, retOf, Int.reduceEq, Int.reduceNe, Int.reduceLT, Int.reduceLE, Int.reduceGT, Int.reduceGE, Int.reduceBEq, Int.reduceBNe, Nat.reduceLT, Nat.reduceLeDiff, Nat.reduceAdd, Nat.reduceSub, Nat.reduceMul, Nat.reduceEqDiff, Nat.reduceBEq, Nat.reduceBNe, reduceCtorEq, Int.reduceNeg, h12]
          refine vcLoop.st (σ := Nat) 0 (fun p => p ≤ 10001 ∧ lp (gP xs sv) a 10001 0 = lp (gP xs sv) a (10001 - p) p) (fun p => 10001 - p) (fun _ => hl (N + 2) [])
            (fun p => [.any, .v (.int .i64 sv), .v (.int .i64 a), .any, .any, .any, .any, .any, .any, .v (.int .i64 (most xs)), .v (.int .i64 p), .any, .any, .any, .any, .any, .any, .any, .any, .any, .any, .any, .any, .any, .any, .any, .any, .any, .any, .any, .any, .any, .any, .any, .any, .any, .any, .any, .any, .any]) ⟨Nat.zero_le _, rfl⟩ (by simp only [↓RP, RQ, if_true, if_false, cond_true, cond_false, vcBin, bne, ne_eq, vcRet, resAll, resA, retOf, Int.reduceEq, Int.reduceNe, Int.reduceLT, Int.reduceLE, Int.reduceGT, Int.reduceGE, Int.reduceBEq, Int.reduceBNe, Nat.reduceLT, Nat.reduceLeDiff, Nat.reduceAdd, Nat.reduceSub, Nat.reduceMul, Nat.reduceEqDiff, Nat.reduceBEq, Nat.reduceBNe, reduceCtorEq, Int.reduceNeg]) (by simp only [↓RP, RQ, if_true, if_false, cond_true, cond_false, vcBin, bne, ne_eq, vcRet, resAll, resA, retOf, Int.reduceEq, Int.reduceNe, Int.reduceLT, Int.reduceLE, Int.reduceGT, Int.reduceGE, Int.reduceBEq, Int.reduceBNe, Nat.reduceLT, Nat.reduceLeDiff, Nat.reduceAdd, Nat.reduceSub, Nat.reduceMul, Nat.reduceEqDiff, Nat.reduceBEq, Nat.reduceBNe, reduceCtorEq, Int.reduceNeg, hms]) ?_
          rintro p ⟨hp, hg⟩
          simp only [↓RP, RQ, if_true, if_false, cond_true, cond_false, vcBin, bne, ne_eq, vcRet, resAll, resA, retOf, Int.reduceEq, Int.reduceNe, Int.reduceLT, Int.reduceLE, Int.reduceGT, Int.reduceGE, Int.reduceBEq, Int.reduceBNe, Nat.reduceLT, Nat.reduceLeDiff, Nat.reduceAdd, Nat.reduceSub, Nat.reduceMul, Nat.reduceEqDiff, Nat.reduceBEq, Nat.reduceBNe, reduceCtorEq, Int.reduceNeg]
          first | refine vcIf.dec (fun h9 => ?_) (fun h9 => ?_) | refine vcQIf.dec (fun h9 => ?_) (fun h9 => ?_)
          · have hp' : p ≤ 10000 := by omega
            obtain ⟨f1, f2, f3, f4⟩ := fnd_b hsb (p := p) ⟨by omega, by omega⟩
            have e4 : IntKind.i64.wrap (sv * p) = sv * p := w64 (by omega) (by omega)
            have e5 : IntKind.i64.wrap (Int.tdiv (sv * p) 10000) = fnd sv p := by rw [Int.tdiv_eq_ediv_of_nonneg f1]; show IntKind.i64.wrap (fnd sv p) = _; exact w64 (by omega) (by omega)
            have e7 : ((10000 : Int) = 0) = False := by simp
            rw [show 10001 - p = (10001 - (p + 1)) + 1 by omega] at hg
            replace hg := hg.trans (lp_succ (gP xs sv) a (10001 - (p + 1)) p)
            simp only [↓RP, RQ, if_true, if_false, cond_true, cond_false, vcBin, bne, ne_eq, vcRet, resAll, resA, retOf, Int.reduceEq, Int.reduceNe, Int.reduceLT, Int.reduceLE, Int.reduceGT, Int.reduceGE, Int.reduceBEq, Int.reduceBNe, Nat.reduceLT, Nat.reduceLeDiff, Nat.reduceAdd, Nat.reduceSub, Nat.reduceMul, Nat.reduceEqDiff, Nat.reduceBEq, Nat.reduceBNe, reduceCtorEq, Int.reduceNeg, h9, e4, e5, e7]
            first | refine vcIf.dec (fun h10 => ?_) (fun h10 => ?_) | refine vcQIf.dec (fun h10 => ?_) (fun h10 => ?_)
            · have hge : gP xs sv p ≥ a := h10
              rw [if_pos hge] at hg
              rw [hg]
              simp only [↓RP, RQ, if_true, if_false, cond_true, cond_false, vcBin, bne, ne_eq, vcRet, resAll, resA, retOf, Int.reduceEq, Int.reduceNe, Int.reduceLT, Int.reduceLE, Int.reduceGT, Int.reduceGE, Int.reduceBEq, Int.reduceBNe, Nat.reduceLT, Nat.reduceLeDiff, Nat.reduceAdd, Nat.reduceSub, Nat.reduceMul, Nat.reduceEqDiff, Nat.reduceBEq, Nat.reduceBNe, reduceCtorEq, Int.reduceNeg, h10]
            · have hlt : ¬ gP xs sv p ≥ a := h10
              rw [if_neg hlt] at hg
              simp only [↓RP, RQ, if_true, if_false, cond_true, cond_false, vcBin, bne, ne_eq, vcRet, resAll, resA, retOf, Int.reduceEq, Int.reduceNe, Int.reduceLT, Int.reduceLE, Int.reduceGT, Int.reduceGE, Int.reduceBEq, Int.reduceBNe, Nat.reduceLT, Nat.reduceLeDiff, Nat.reduceAdd, Nat.reduceSub, Nat.reduceMul, Nat.reduceEqDiff, Nat.reduceBEq, Nat.reduceBNe, reduceCtorEq, Int.reduceNeg, h10, w_succ (show p < 100000 by omega) (by decide)]
              exact ⟨p + 1, by omega, ⟨by omega, hg⟩, by simp only [↓RP, RQ, if_true, if_false, cond_true, cond_false, vcBin, bne, ne_eq, vcRet, resAll, resA, retOf, Int.reduceEq, Int.reduceNe, Int.reduceLT, Int.reduceLE, Int.reduceGT, Int.reduceGE, Int.reduceBEq, Int.reduceBNe, Nat.reduceLT, Nat.reduceLeDiff, Nat.reduceAdd, Nat.reduceSub, Nat.reduceMul, Nat.reduceEqDiff, Nat.reduceBEq, Nat.reduceBNe, reduceCtorEq, Int.reduceNeg]⟩
          · have hp' : p = 10001 := by omega
            subst hp'
            rw [Nat.sub_self] at hg
            replace hg := hg.trans (lp_zero (gP xs sv) a _)
            rw [hg]
            simp only [↓RP, RQ, if_true, if_false, cond_true, cond_false, vcBin, bne, ne_eq, vcRet, resAll, resA, retOf, Int.reduceEq, Int.reduceNe, Int.reduceLT, Int.reduceLE, Int.reduceGT, Int.reduceGE, Int.reduceBEq, Int.reduceBNe, Nat.reduceLT, Nat.reduceLeDiff, Nat.reduceAdd, Nat.reduceSub, Nat.reduceMul, Nat.reduceEqDiff, Nat.reduceBEq, Nat.reduceBNe, reduceCtorEq, Int.reduceNeg, h9]
      · simp only [↓RP, RQ, if_true, if_false, cond_true, cond_false, vcBin, bne, ne_eq, vcRet, resAll, resA, retOf, Int.reduceEq, Int.reduceNe, Int.reduceLT, Int.reduceLE, Int.reduceGT, Int.reduceGE, Int.reduceBEq, Int.reduceBNe, Nat.reduceLT, Nat.reduceLeDiff, Nat.reduceAdd, Nat.reduceSub, Nat.reduceMul, Nat.reduceEqDiff, Nat.reduceBEq, Nat.reduceBNe, reduceCtorEq, Int.reduceNeg, h3, ptsT, ha, h2]
theorem lawFnExactPointsFor (N : Nat) {a0 : AV} (h0 : LeafOk (.sl [.str, .int .i64, .int .i64, .int .i64, .int .i64]) a0) {a1 : AV} (h1 : LeafOk (.int .i64) a1) {a2 : AV} (h2 : LeafOk (.int .i64) a2) : Runs Try.prog 10 [a0, a1, a2] (emp N) fun r H' => r = .v (.bool true) ∧ H' = emp N := by
  obtain ⟨xs, rfl, hm_xs, hw_xs⟩ := rows_of Clm.of h0
  obtain ⟨sv, rfl, hw0_sv⟩ := leaf_int h1
  have hb_sv := wf_i64 hw0_sv
  obtain ⟨a, rfl, hw0_a⟩ := leaf_int h2
  have hb_a := wf_i64 hw0_a
  refine Runs.fin0 (Q := fun r H' => r = .v (.bool true)) ?_ (fun r H' h => by rw [h]; exact .same _ (.inl rfl)) (.v _)
  refine C10_fn ?_
  unfold C10
  simp only [↓RP, RQ, if_true, if_false, cond_true, cond_false, vcBin, bne, ne_eq, vcRet, resAll, resA, retOf, Int.reduceEq, Int.reduceNe, Int.reduceLT, Int.reduceLE, Int.reduceGT, Int.reduceGE, Int.reduceBEq, Int.reduceBNe, Nat.reduceLT, Nat.reduceLeDiff, Nat.reduceAdd, Nat.reduceSub, Nat.reduceMul, Nat.reduceEqDiff, Nat.reduceBEq, Nat.reduceBNe, reduceCtorEq, Int.reduceNeg, len_map]
  first | refine vcCall.same (s15 N xs _ hm_xs) ?_ | refine vcQCall.same (s15 N xs _ hm_xs) ?_
  simp only [↓RP, RQ, if_true, if_false, cond_true, cond_false, vcBin, bne, ne_eq, vcRet, resAll, resA, retOf, Int.reduceEq, Int.reduceNe, Int.reduceLT, Int.reduceLE, Int.reduceGT, Int.reduceGE, Int.reduceBEq, Int.reduceBNe, Nat.reduceLT, Nat.reduceLeDiff, Nat.reduceAdd, Nat.reduceSub, Nat.reduceMul, Nat.reduceEqDiff, Nat.reduceBEq, Nat.reduceBNe, reduceCtorEq, Int.reduceNeg, len_map]
  first | refine vcIf.dec (fun h_xs => ?_) (fun h_xs => ?_) | refine vcQIf.dec (fun h_xs => ?_) (fun h_xs => ?_)
  · simp only [↓RP, RQ, if_true, if_false, cond_true, cond_false, vcBin, bne, ne_eq, vcRet, resAll, resA, retOf, Int.reduceEq, Int.reduceNe, Int.reduceLT, Int.reduceLE, Int.reduceGT, Int.reduceGE, Int.reduceBEq, Int.reduceBNe, Nat.reduceLT, Nat.reduceLeDiff, Nat.reduceAdd, Nat.reduceSub, Nat.reduceMul, Nat.reduceEqDiff, Nat.reduceBEq, Nat.reduceBNe, reduceCtorEq, Int.reduceNeg, h_xs]
  · obtain ⟨hn_xs, hx_xs, hl_xs⟩ := szS_fit Clm.fit hw_xs hm_xs (by decide) (by decide) (Int.not_lt.1 h_xs)
    simp only [↓RP, RQ, if_true, if_false, cond_true, cond_false, vcBin, bne, ne_eq, vcRet, resAll, resA, retOf, Int.reduceEq, Int.reduceNe, Int.reduceLT, Int.reduceLE, Int.reduceGT, Int.reduceGE, Int.reduceBEq, Int.reduceBNe, Nat.reduceLT, Nat.reduceLeDiff, Nat.reduceAdd, Nat.reduceSub, Nat.reduceMul, Nat.reduceEqDiff, Nat.reduceBEq, Nat.reduceBNe, reduceCtorEq, Int.reduceNeg, len_map, h_xs]
    first | refine vcCall.same (s17 N xs hn_xs) ?_ | refine vcQCall.same (s17 N xs hn_xs) ?_
    simp only [↓RP, RQ, if_true, if_false, cond_true, cond_false, vcBin, bne, ne_eq, vcRet, resAll, resA, retOf, Int.reduceEq, Int.reduceNe, Int.reduceLT, Int.reduceLE, Int.reduceGT, Int.reduceGE, Int.reduceBEq, Int.reduceBNe, Nat.reduceLT, Nat.reduceLeDiff, Nat.reduceAdd, Nat.reduceSub, Nat.reduceMul, Nat.reduceEqDiff, Nat.reduceBEq, Nat.reduceBNe, reduceCtorEq, Int.reduceNeg, len_map, h_xs]
    first | refine vcCall.same (s51 N xs hn_xs hx_xs sv hb_sv a hb_a) ?_ | refine vcQCall.same (s51 N xs hn_xs hx_xs sv hb_sv a hb_a) ?_
    simp only [↓RP, RQ, if_true, if_false, cond_true, cond_false, vcBin, bne, ne_eq, vcRet, resAll, resA, retOf, Int.reduceEq, Int.reduceNe, Int.reduceLT, Int.reduceLE, Int.reduceGT, Int.reduceGE, Int.reduceBEq, Int.reduceBNe, Nat.reduceLT, Nat.reduceLeDiff, Nat.reduceAdd, Nat.reduceSub, Nat.reduceMul, Nat.reduceEqDiff, Nat.reduceBEq, Nat.reduceBNe, reduceCtorEq, Int.reduceNeg, len_map, h_xs]
    first | refine vcCall.same (s17 N xs hn_xs) ?_ | refine vcQCall.same (s17 N xs hn_xs) ?_
    simp only [↓RP, RQ, if_true, if_false, cond_true, cond_false, vcBin, bne, ne_eq, vcRet, resAll, resA, retOf, Int.reduceEq, Int.reduceNe, Int.reduceLT, Int.reduceLE, Int.reduceGT, Int.reduceGE, Int.reduceBEq, Int.reduceBNe, Nat.reduceLT, Nat.reduceLeDiff, Nat.reduceAdd, Nat.reduceSub, Nat.reduceMul, Nat.reduceEqDiff, Nat.reduceBEq, Nat.reduceBNe, reduceCtorEq, Int.reduceNeg, len_map, h_xs]
    first | refine vcCall.same (s52 N xs hn_xs hx_xs sv hb_sv a hb_a) ?_ | refine vcQCall.same (s52 N xs hn_xs hx_xs sv hb_sv a hb_a) ?_
    simp only [↓RP, RQ, if_true, if_false, cond_true, cond_false, vcBin, bne, ne_eq, vcRet, resAll, resA, retOf, Int.reduceEq, Int.reduceNe, Int.reduceLT, Int.reduceLE, Int.reduceGT, Int.reduceGE, Int.reduceBEq, Int.reduceBNe, Nat.reduceLT, Nat.reduceLeDiff, Nat.reduceAdd, Nat.reduceSub, Nat.reduceMul, Nat.reduceEqDiff, Nat.reduceBEq, Nat.reduceBNe, reduceCtorEq, Int.reduceNeg, int_refl, str_refl, boo_refl, len_map, h_xs]
    first | refine vcCall.same (s17 N xs hn_xs) ?_ | refine vcQCall.same (s17 N xs hn_xs) ?_
    simp only [↓RP, RQ, if_true, if_false, cond_true, cond_false, vcBin, bne, ne_eq, vcRet, resAll, resA, retOf, Int.reduceEq, Int.reduceNe, Int.reduceLT, Int.reduceLE, Int.reduceGT, Int.reduceGE, Int.reduceBEq, Int.reduceBNe, Nat.reduceLT, Nat.reduceLeDiff, Nat.reduceAdd, Nat.reduceSub, Nat.reduceMul, Nat.reduceEqDiff, Nat.reduceBEq, Nat.reduceBNe, reduceCtorEq, Int.reduceNeg, len_map, h_xs]
    first | refine vcCall.same (s19 N xs hn_xs) ?_ | refine vcQCall.same (s19 N xs hn_xs) ?_
    simp only [↓RP, RQ, if_true, if_false, cond_true, cond_false, vcBin, bne, ne_eq, vcRet, resAll, resA, retOf, Int.reduceEq, Int.reduceNe, Int.reduceLT, Int.reduceLE, Int.reduceGT, Int.reduceGE, Int.reduceBEq, Int.reduceBNe, Nat.reduceLT, Nat.reduceLeDiff, Nat.reduceAdd, Nat.reduceSub, Nat.reduceMul, Nat.reduceEqDiff, Nat.reduceBEq, Nat.reduceBNe, reduceCtorEq, Int.reduceNeg, len_map, h_xs]
end Go.Proofs.Ytbgnlnlgjmipfaa
