/- The abstract states: how a new block, a store and an append turn them. Laws of the model alone. -/
import Derived.Test.YtpaflfaokgapgaaA1
namespace Go.Abs

def updR (ρ : Nat → Bl) (b : Nat) (v : Bl) : Nat → Bl := fun i => if i = b then v else ρ i
theorem updR_same (ρ : Nat → Bl) (b : Nat) (v : Bl) : updR ρ b v b = v := by simp [updR]
theorem updR_lt (ρ : Nat → Bl) {n b : Nat} (v : Bl) (h : b < n) : updR ρ n v b = ρ b := by simp [updR]; omega

theorem Rel.change {H H' : Heap} {ρ ρ' : Nat → Bl} {w w' : World} (hR : Rel H ρ w) (hN : Nx H ρ w H' ρ' w')
    (lt : ∀ b x, H'.m b = some x → b < H'.nx)
    (blk : ∀ b x, H'.m b = some x → (H.m b = some x ∧ w'.heap[(ρ b).k]? = w.heap[(ρ b).k]?) ∨ ∃ cur ty, BlkOk H' ρ' w' b x cur ty)
    (inj : ∀ b b' x x', H'.m b = some x → H'.m b' = some x' → (ρ' b).k = (ρ' b').k → b = b') : Rel H' ρ' w' := by
  refine ⟨lt, fun b x hb => ?_, inj⟩
  rcases blk b x hb with ⟨h1, h2⟩ | h
  · obtain ⟨cur, ty, k⟩ := hR.blk b x h1
    have e := hN.rho b (hR.lt b x h1)
    exact ⟨cur, ty, ⟨by rw [e, h2]; exact k.at_, by rw [e]; exact k.sz, by rw [e]; exact k.size, by rw [e]; exact k.cap, k.rows, by rw [e]; exact k.len, k.ones, hN.vrl k.rel⟩⟩
  · exact h

theorem live_lt {H : Heap} {ρ : Nat → Bl} {w : World} (hR : Rel H ρ w) {k : Nat} (h : Live H ρ k) : k < w.heap.size := by
  obtain ⟨b, x, hb, rfl⟩ := h
  obtain ⟨cur, ty, hk⟩ := hR.blk b x hb
  exact (Array.getElem?_eq_some_iff.1 hk.at_).1

/-- A new block. -/
theorem alloc_ok {H : Heap} {ρ : Nat → Bl} {w w' : World} (hR : Rel H ρ w) {cur : Array Value} {ty : TypeId}
    (hh : w'.heap = w.heap.push (.cells cur ty (0, 0))) (h1 : w'.os = w.os) (h2 : w'.tape = w.tape) (h3 : w'.output = w.output)
    (x : Blk) (cap : Nat) (hs : cur.size = cap * x.sz) (hc : cap ≤ maxLen) (hr : ∀ r, r ∈ x.el → r.length = x.sz) (hl : x.el.length ≤ cap)
    (ho : Ones (cur.toList.take (x.el.length * x.sz))) (hv : VRwl H ρ w x.el.flatten (cur.toList.take (x.el.length * x.sz))) :
    ∃ ρ', Rel (H.alloc x) ρ' w' ∧ Nx H ρ w (H.alloc x) ρ' w' ∧ ρ' H.nx = ⟨w.heap.size, cap, x.sz⟩ := by
  have hlt := hR.lt
  have hN : Nx H ρ w (H.alloc x) (updR ρ H.nx ⟨w.heap.size, cap, x.sz⟩) w' := by
    refine ⟨Nat.le_succ _, fun b hb => updR_lt ρ _ hb, h1, h2, h3, by rw [hh]; simp, fun k hk _ => by rw [hh, Array.getElem?_push, if_neg (by omega)], ?_⟩
    rintro k ⟨b, y, hb, rfl⟩
    by_cases e : b = H.nx
    · subst e; rw [updR_same]; exact .inr (Nat.le_refl _)
    · simp only [Heap.alloc, if_neg e] at hb
      rw [updR_lt ρ _ (hlt b y hb)]
      exact .inl ⟨b, y, hb, rfl⟩
  refine ⟨_, hR.change hN (fun b y hb => ?_) (fun b y hb => ?_) (fun b b' y y' hb hb' he => ?_), hN, updR_same _ _ _⟩
  · by_cases e : b = H.nx
    · subst e; exact Nat.lt_succ_self _
    · simp only [Heap.alloc, if_neg e] at hb
      exact Nat.lt_succ_of_lt (hlt b y hb)
  · by_cases e : b = H.nx
    · subst e
      simp only [Heap.alloc, if_true, Option.some.injEq] at hb
      subst hb
      refine .inr ⟨cur, ty, ?_⟩
      refine ⟨by rw [updR_same, hh]; simp, by rw [updR_same], by rw [updR_same]; exact hs, by rw [updR_same]; exact hc, hr, by rw [updR_same]; exact hl, ho, hN.vrl hv⟩
    · simp only [Heap.alloc, if_neg e] at hb
      refine .inl ⟨hb, ?_⟩
      have := live_lt hR ⟨b, y, hb, rfl⟩
      rw [hh, Array.getElem?_push, if_neg (by omega)]
  · have key : ∀ c z, (H.alloc x).m c = some z → c ≠ H.nx → H.m c = some z ∧ (updR ρ H.nx ⟨w.heap.size, cap, x.sz⟩ c) = ρ c ∧ (ρ c).k < w.heap.size := by
      intro c z hz e
      simp only [Heap.alloc, if_neg e] at hz
      exact ⟨hz, updR_lt ρ _ (hlt c z hz), live_lt hR ⟨c, z, hz, rfl⟩⟩
    by_cases e : b = H.nx <;> by_cases e' : b' = H.nx
    · rw [e, e']
    · obtain ⟨_, h5, h6⟩ := key b' y' hb' e'
      rw [e, updR_same, h5] at he
      simp only at he
      omega
    · obtain ⟨_, h5, h6⟩ := key b y hb e
      rw [e', updR_same, h5] at he
      simp only at he
      omega
    · obtain ⟨h4, h5, h6⟩ := key b y hb e
      obtain ⟨h4', h5', h6'⟩ := key b' y' hb' e'
      rw [h5, h5'] at he
      exact hR.inj b b' y y' h4 h4' he

/-- A store into a block of our own. -/
theorem set_ok {H : Heap} {ρ : Nat → Bl} {w : World} (hR : Rel H ρ w) {b : Nat} {x : Blk} (hb : H.m b = some x) {cur : Array Value} {ty : TypeId} (hk : BlkOk H ρ w b x cur ty)
    (x' : Blk) (cur' : Array Value) (e1 : x'.sz = x.sz) (e2 : cur'.size = cur.size) (hr : ∀ r, r ∈ x'.el → r.length = x.sz) (hl : x'.el.length ≤ (ρ b).cap)
    (ho : Ones (cur'.toList.take (x'.el.length * x.sz))) (hv : VRwl H ρ w x'.el.flatten (cur'.toList.take (x'.el.length * x.sz))) :
    Rel (H.upd b x') ρ (w.setRow (ρ b).k cur') ∧ Nx H ρ w (H.upd b x') ρ (w.setRow (ρ b).k cur') := by
  have mem : ∀ c z, (H.upd b x').m c = some z → ∃ z', H.m c = some z' := fun c z hz => by
    by_cases e : c = b
    · subst e; exact ⟨x, hb⟩
    · simp only [Heap.upd, if_neg e] at hz; exact ⟨z, hz⟩
  have hN : Nx H ρ w (H.upd b x') ρ (w.setRow (ρ b).k cur') := by
    refine ⟨Nat.le_refl _, fun _ _ => rfl, rfl, rfl, rfl, by simp, fun k _ hl => setRow_other _ _ _ _ (fun e => hl ⟨b, x, hb, e.symm⟩), ?_⟩
    rintro k ⟨c, y, hc, rfl⟩
    obtain ⟨z, hz⟩ := mem c y hc
    exact .inl ⟨c, z, hz, rfl⟩
  refine ⟨hR.change hN (fun c y hc => ?_) (fun c y hc => ?_) (fun c c' y y' hc hc' he => ?_), hN⟩
  · obtain ⟨z, hz⟩ := mem c y hc
    exact hR.lt c z hz
  · by_cases e : c = b
    · subst e
      simp only [Heap.upd, if_true, Option.some.injEq] at hc
      subst hc
      exact .inr ⟨cur', ty, ⟨setRow_heap _ _ _ _ _ _ hk.at_, by rw [e1]; exact hk.sz, by rw [e2, e1]; exact hk.size, hk.cap, by rw [e1]; exact hr, hl, by rw [e1]; exact ho, by rw [e1]; exact hN.vrl hv⟩⟩
    · simp only [Heap.upd, if_neg e] at hc
      exact .inl ⟨hc, setRow_other _ _ _ _ (fun he => e (hR.inj c b y x hc hb he))⟩
  · obtain ⟨z, hz⟩ := mem c y hc
    obtain ⟨z', hz'⟩ := mem c' y' hc'
    exact hR.inj c c' z z' hz hz' he

/-- What was a block of ours goes on as a new one in the same place (an append that had room), or is let go. -/
theorem app_ok {H : Heap} {ρ : Nat → Bl} {w : World} (hR : Rel H ρ w) {b : Nat} {x : Blk} (hb : H.m b = some x) {cur : Array Value} {ty : TypeId} (hk : BlkOk H ρ w b x cur ty)
    (x' : Blk) (cur' : Array Value) (e1 : x'.sz = x.sz) (e2 : cur'.size = cur.size) (hr : ∀ r, r ∈ x'.el → r.length = x.sz) (hl : x'.el.length ≤ (ρ b).cap)
    (ho : Ones (cur'.toList.take (x'.el.length * x.sz))) (hv : VRwl H ρ w x'.el.flatten (cur'.toList.take (x'.el.length * x.sz))) :
    ∃ ρ', Rel ((H.kill b).alloc x') ρ' (w.setRow (ρ b).k cur') ∧ Nx H ρ w ((H.kill b).alloc x') ρ' (w.setRow (ρ b).k cur') ∧ ρ' H.nx = ρ b := by
  have hlt := hR.lt
  have mem : ∀ c z, ((H.kill b).alloc x').m c = some z → c ≠ H.nx → H.m c = some z ∧ c ≠ b := fun c z hz e => by
    replace hz : (if c = H.nx then some x' else if c = b then none else H.m c) = some z := hz
    rw [if_neg e] at hz
    by_cases e' : c = b
    · rw [if_pos e'] at hz; cases hz
    · rw [if_neg e'] at hz; exact ⟨hz, e'⟩
  have hN : Nx H ρ w ((H.kill b).alloc x') (updR ρ H.nx (ρ b)) (w.setRow (ρ b).k cur') := by
    refine ⟨Nat.le_succ _, fun c hc => updR_lt ρ _ hc, rfl, rfl, rfl, by simp, fun k _ hl => setRow_other _ _ _ _ (fun e => hl ⟨b, x, hb, e.symm⟩), ?_⟩
    rintro k ⟨c, y, hc, rfl⟩
    by_cases e : c = H.nx
    · subst e; rw [updR_same]; exact .inl ⟨b, x, hb, rfl⟩
    · obtain ⟨h1, _⟩ := mem c y hc e
      rw [updR_lt ρ _ (hlt c y h1)]
      exact .inl ⟨c, y, h1, rfl⟩
  refine ⟨_, hR.change hN (fun c y hc => ?_) (fun c y hc => ?_) (fun c c' y y' hc hc' he => ?_), hN, updR_same _ _ _⟩
  · by_cases e : c = H.nx
    · subst e; exact Nat.lt_succ_self _
    · exact Nat.lt_succ_of_lt (hlt c y (mem c y hc e).1)
  · by_cases e : c = H.nx
    · subst e
      replace hc : (if H.nx = H.nx then some x' else if H.nx = b then none else H.m H.nx) = some y := hc
      rw [if_pos rfl, Option.some.injEq] at hc
      subst hc
      refine .inr ⟨cur', ty, ⟨by rw [updR_same]; exact setRow_heap _ _ _ _ _ _ hk.at_, by rw [updR_same, e1]; exact hk.sz, by rw [updR_same, e2, e1]; exact hk.size,
        by rw [updR_same]; exact hk.cap, by rw [e1]; exact hr, by rw [updR_same]; exact hl, by rw [e1]; exact ho, by rw [e1]; exact hN.vrl hv⟩⟩
    · obtain ⟨h1, h2⟩ := mem c y hc e
      exact .inl ⟨h1, setRow_other _ _ _ _ (fun he => h2 (hR.inj c b y x h1 hb he))⟩
  · by_cases e : c = H.nx <;> by_cases e' : c' = H.nx
    · rw [e, e']
    · obtain ⟨h1, h2⟩ := mem c' y' hc' e'
      rw [e, updR_same, updR_lt ρ _ (hlt c' y' h1)] at he
      exact absurd (hR.inj b c' x y' hb h1 he).symm h2
    · obtain ⟨h1, h2⟩ := mem c y hc e
      rw [e', updR_same, updR_lt ρ _ (hlt c y h1)] at he
      exact absurd (hR.inj c b y x h1 hb he) h2
    · obtain ⟨h1, h2⟩ := mem c y hc e
      obtain ⟨h1', h2'⟩ := mem c' y' hc' e'
      rw [updR_lt ρ _ (hlt c y h1), updR_lt ρ _ (hlt c' y' h1')] at he
      exact hR.inj c c' y y' h1 h1' he

/-- A block is let go. -/
theorem kill_ok {H : Heap} {ρ : Nat → Bl} {w : World} (hR : Rel H ρ w) (b : Nat) : Rel (H.kill b) ρ w ∧ Nx H ρ w (H.kill b) ρ w := by
  have mem : ∀ c z, (H.kill b).m c = some z → H.m c = some z := fun c z hz => by
    simp only [Heap.kill] at hz
    by_cases e' : c = b
    · rw [if_pos e'] at hz; cases hz
    · rw [if_neg e'] at hz; exact hz
  have hN : Nx H ρ w (H.kill b) ρ w :=
    ⟨Nat.le_refl _, fun _ _ => rfl, rfl, rfl, rfl, Nat.le_refl _, fun _ _ _ => rfl, fun k ⟨c, y, hc, e⟩ => .inl ⟨c, y, mem c y hc, e⟩⟩
  exact ⟨hR.change hN (fun c y hc => hR.lt c y (mem c y hc)) (fun c y hc => .inl ⟨mem c y hc, rfl⟩) (fun c c' y y' hc hc' he => hR.inj c c' y y' (mem c y hc) (mem c' y' hc') he), hN⟩
end Go.Abs
