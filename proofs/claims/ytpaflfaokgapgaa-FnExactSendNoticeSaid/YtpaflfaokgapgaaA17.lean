/- Contracts over an empty heap, and their use where there are blocks of our own. Laws of the model alone. -/
import Derived.Test.YtpaflfaokgapgaaA16
namespace Go.Abs

/-- A heap without blocks of our own. -/
def emp (N : Nat) : Heap := ⟨N, fun _ => none⟩
/-- A heap and new blocks. -/
def Heap.add (H : Heap) (X : List Blk) : Heap := ⟨H.nx + X.length, fun i => if i < H.nx then H.m i else X[i - H.nx]?⟩
theorem emp_nx (N : Nat) : (emp N).nx = N := rfl
theorem emp_m (N b : Nat) : (emp N).m b = none := rfl
theorem rel_emp (N : Nat) (ρ : Nat → Bl) (w : World) : Rel (emp N) ρ w where
  lt := fun b x h => by cases h
  blk := fun b x h => by cases h
  inj := fun b b' x x' h => by cases h
theorem live_emp (N : Nat) (ρ : Nat → Bl) (k : Nat) : ¬ Live (emp N) ρ k := fun ⟨b, x, h, _⟩ => by cases h

/-- No block of our own is named. -/
inductive NoRef : AV → Prop where
  | v (x : Value) : NoRef (.v x)
  | any : NoRef .any
  | ro (sz : Nat) (xs : List (List AV)) : (∀ r, r ∈ xs → ∀ a, a ∈ r → NoRef a) → NoRef (.ro sz xs)
  | rp (cs : List AV) : (∀ a, a ∈ cs → NoRef a) → NoRef (.rp cs)
  | agg (cs : List AV) : (∀ a, a ∈ cs → NoRef a) → NoRef (.agg cs)
  | tup (cs : List AV) : (∀ a, a ∈ cs → NoRef a) → NoRef (.tup cs)
  | fn (f : Nat) (cs : List AV) : (∀ a, a ∈ cs → NoRef a) → NoRef (.fn f cs)
/-- No foreign memory is named. -/
inductive NoRo : AV → Prop where
  | v (x : Value) : NoRo (.v x)
  | any : NoRo .any
  | own (b n : Nat) : NoRo (.own b n)
  | ptr (b i j : Nat) : NoRo (.ptr b i j)
  | agg (cs : List AV) : (∀ a, a ∈ cs → NoRo a) → NoRo (.agg cs)
  | tup (cs : List AV) : (∀ a, a ∈ cs → NoRo a) → NoRo (.tup cs)
  | fn (f : Nat) (cs : List AV) : (∀ a, a ∈ cs → NoRo a) → NoRo (.fn f cs)

theorem NoRef.vr {N N' : Nat} {ρ ρ' : Nat → Bl} {L L' : Nat → Prop} {w : World} (hL : ∀ k, k < w.heap.size → L' k → L k) {av : AV} {x : Value} (hv : VR N ρ L w av x) : NoRef av → VR N' ρ' L' w av x := by
  have hc : ∀ (a : Addr) x, Cell L w a x → Cell L' w a x := fun a x h => ⟨h.1, h.2.1, fun h' => h.2.2 (hL _ (World.block_lt_of_cell? w a h.1) h')⟩
  induction hv with
  | v x => intro _; exact .v x
  | any x => intro _; exact .any x
  | own b n c hb h1 h2 => intro h; cases h
  | ptr b i j hb => intro h; cases h
  | ro sz xs a c vs h1 h2 h3 h4 h5 ih =>
    intro h
    cases h with | ro _ _ hn =>
    refine .ro sz xs a c vs h1 h2 h3 (fun he => ?_) fun p av x e1 e2 => ih p av x e1 e2 ?_
    · obtain ⟨ad, ha, hcell⟩ := h4 he
      exact ⟨ad, ha, fun p x hp => hc _ x (hcell p x hp)⟩
    · obtain ⟨r, hr, ha⟩ := List.mem_flatten.1 (List.mem_of_getElem? e1)
      exact hn r hr av ha
  | rp cs ad vs h1 h2 h3 ih => intro h; cases h with | rp _ hn => exact .rp cs ad vs h1 (fun p x hp => hc _ x (h2 p x hp)) fun p av x e1 e2 => ih p av x e1 e2 (hn av (List.mem_of_getElem? e1))
  | agg cs vs h1 h2 h3 ih => intro h; cases h with | agg _ hn => exact .agg cs vs h1 h2 fun p av x e1 e2 => ih p av x e1 e2 (hn av (List.mem_of_getElem? e1))
  | tup cs vs h1 h2 ih => intro h; cases h with | tup _ hn => exact .tup cs vs h1 fun p av x e1 e2 => ih p av x e1 e2 (hn av (List.mem_of_getElem? e1))
  | fn f cs vs h1 h2 ih => intro h; cases h with | fn _ _ hn => exact .fn f cs vs h1 fun p av x e1 e2 => ih p av x e1 e2 (hn av (List.mem_of_getElem? e1))
theorem NoRo.vr {N : Nat} {ρ : Nat → Bl} {L L' : Nat → Prop} {w : World} {av : AV} {x : Value} (hv : VR N ρ L w av x) : NoRo av → VR N ρ L' w av x := by
  induction hv with
  | v x => intro _; exact .v x
  | any x => intro _; exact .any x
  | own b n c hb h1 h2 => intro _; exact .own b n c hb h1 h2
  | ptr b i j hb => intro _; exact .ptr b i j hb
  | ro sz xs a c vs h1 h2 h3 h4 h5 ih => intro h; cases h
  | rp cs ad vs h1 h2 h3 ih => intro h; cases h
  | agg cs vs h1 h2 h3 ih => intro h; cases h with | agg _ hn => exact .agg cs vs h1 h2 fun p av x e1 e2 => ih p av x e1 e2 (hn av (List.mem_of_getElem? e1))
  | tup cs vs h1 h2 ih => intro h; cases h with | tup _ hn => exact .tup cs vs h1 fun p av x e1 e2 => ih p av x e1 e2 (hn av (List.mem_of_getElem? e1))
  | fn f cs vs h1 h2 ih => intro h; cases h with | fn _ _ hn => exact .fn f cs vs h1 fun p av x e1 e2 => ih p av x e1 e2 (hn av (List.mem_of_getElem? e1))

/-- What is our own, seen as what nobody writes; the blocks of bs stay our own. -/
inductive Fz (H : Heap) (bs : List Nat) : AV → AV → Prop where
  | same (a : AV) : (bs = [] ∨ NoRef a) → Fz H bs a a
  | any (a : AV) : Fz H bs a .any
  | nil (sz : Nat) : Fz H bs (.v (.slice none 0 0)) (.ro sz [])
  | own (b n : Nat) (x : Blk) : H.m b = some x → b ∉ bs → n ≤ x.el.length → (bs = [] ∨ ∀ r, r ∈ x.el → ∀ a, a ∈ r → NoRef a) → Fz H bs (.own b n) (.ro x.sz (x.el.take n))
  | ptr (b i j : Nat) (x : Blk) (cs : List AV) : H.m b = some x → b ∉ bs → i < x.el.length → j ≤ x.sz → cs.length = ((x.el.getD i []).drop j).length →
      (∀ (p : Nat) a a', ((x.el.getD i []).drop j)[p]? = some a → cs[p]? = some a' → Fz H bs a a') → Fz H bs (.ptr b i j) (.rp cs)
  | agg (cs cs' : List AV) : cs'.length = cs.length → (∀ (p : Nat) a a', cs[p]? = some a → cs'[p]? = some a' → Fz H bs a a') → Fz H bs (.agg cs) (.agg cs')
  | tup (cs cs' : List AV) : cs'.length = cs.length → (∀ (p : Nat) a a', cs[p]? = some a → cs'[p]? = some a' → Fz H bs a a') → Fz H bs (.tup cs) (.tup cs')
  | fn (f : Nat) (cs cs' : List AV) : cs'.length = cs.length → (∀ (p : Nat) a a', cs[p]? = some a → cs'[p]? = some a' → Fz H bs a a') → Fz H bs (.fn f cs) (.fn f cs')
inductive Fzl (H : Heap) (bs : List Nat) : List AV → List AV → Prop where
  | nil : Fzl H bs [] []
  | cons {a a' : AV} {l l' : List AV} : Fz H bs a a' → Fzl H bs l l' → Fzl H bs (a :: l) (a' :: l')
theorem Fzl.same {H : Heap} : ∀ l : List AV, Fzl H [] l l
  | [] => .nil
  | a :: l => .cons (.same a (.inl rfl)) (Fzl.same l)
theorem Fzl.len {H : Heap} {bs : List Nat} {l l' : List AV} (h : Fzl H bs l l') : l'.length = l.length := by
  induction h with
  | nil => rfl
  | cons _ _ ih => simp only [List.length_cons, ih]
theorem Fzl.get {H : Heap} {bs : List Nat} {l l' : List AV} (h : Fzl H bs l l') : ∀ (p : Nat) a a', l[p]? = some a → l'[p]? = some a' → Fz H bs a a' := by
  induction h with
  | nil => intro p a a' h; simp at h
  | cons h1 _ ih =>
    intro p a a' e1 e2
    cases p with
    | zero => simp only [List.getElem?_cons_zero, Option.some.injEq] at e1 e2; subst e1; subst e2; exact h1
    | succ p => exact ih p a a' (by simpa using e1) (by simpa using e2)
theorem Fz.aggl {H : Heap} {bs : List Nat} {l l' : List AV} (h : Fzl H bs l l') : Fz H bs (.agg l) (.agg l') := .agg l l' h.len h.get
theorem Fz.tupl {H : Heap} {bs : List Nat} {l l' : List AV} (h : Fzl H bs l l') : Fz H bs (.tup l) (.tup l') := .tup l l' h.len h.get
theorem Fz.fnl {H : Heap} {bs : List Nat} {f : Nat} {l l' : List AV} (h : Fzl H bs l l') : Fz H bs (.fn f l) (.fn f l') := .fn f l l' h.len h.get

theorem freeze {H : Heap} {ρ : Nat → Bl} {w : World} (hR : Rel H ρ w) {bs : List Nat} {av av' : AV} {x : Value} (hf : Fz H bs av av') (hv : VRw H ρ w av x) : VR H.nx ρ (Of H ρ bs) w av' x := by
  have hm : ∀ {a : AV} {y : Value}, VRw H ρ w a y → VR H.nx ρ (Of H ρ bs) w a y := fun h => VR.mono (Nat.le_refl _) (fun _ _ => rfl) (fun a x h => ⟨h.1, h.2.1, fun ⟨b, x, _, h1, h2⟩ => h.2.2 ⟨b, x, h1, h2⟩⟩) h
  have hnl : ∀ {b y}, H.m b = some y → b ∉ bs → ¬ Of H ρ bs (ρ b).k := fun {b y} hb hn ⟨b', x', h1, h2, h3⟩ => hn (by rw [hR.inj b b' y x' hb h2 h3.symm]; exact h1)
  induction hf generalizing x with
  | same a => exact hm hv
  | any a => exact .any x
  | nil sz =>
    cases hv with | v _ =>
    exact VR.ro (N := H.nx) (ρ := ρ) (L := Of H ρ bs) (w := w) sz [] none 0 [] (fun r hr => by cases hr) (Nat.le_refl _) rfl (fun h => absurd rfl h) (fun p av x h1 _ => by simp at h1)
  | own b n y hb hbs hn _ =>
    obtain ⟨vs, h1, h2, h3, h4, h5⟩ := cells_of_blk hR hb
    cases hv with | own _ _ c q1 q2 q3 =>
    have e : n = (y.el.take n).length := by rw [List.length_take]; omega
    have hl : ∀ r, r ∈ y.el.take n → r.length = y.sz := fun r hr => h4 r (List.mem_of_mem_take hr)
    have := VR.ro (N := H.nx) (ρ := ρ) (L := Of H ρ bs) (w := w) y.sz (y.el.take n) (some ⟨(ρ b).k, 0, none⟩) c (vs.take (y.el.take n).flatten.length) hl (by rw [← e]; exact q2) ?_ (fun _ => ⟨_, rfl, ?_⟩) ?_
    · rw [← e] at this; exact this
    · rw [List.length_take, h1.1, flatten_len _ hl, flatten_len _ h4, ← e]; exact Nat.min_eq_left (Nat.mul_le_mul_right _ hn)
    · intro p v hp
      rw [List.getElem?_take] at hp
      split at hp
      · have := h5 p v hp
        exact ⟨by rw [add_zero_off]; exact this.1, this.2, by rw [add_zero_off]; exact hnl hb hbs⟩
      · cases hp
    · intro p a v e1 e2
      rw [List.getElem?_take] at e2
      split at e2
      · exact hm (h1.2 p a v (flatten_take_get h4 e1) e2)
      · cases e2
  | ptr b i j y cs hb hbs hi hj hcs _ ih =>
    obtain ⟨vs, h1, h2, h3, h4, h5⟩ := cells_of_blk hR hb
    cases hv with | ptr _ _ _ q1 =>
    have hrow : (y.el.getD i []).length = y.sz := by
      rw [List.getD_eq_getElem?_getD, List.getElem?_eq_getElem hi]
      exact h4 _ (List.getElem_mem hi)
    have hfl : ∀ (p : Nat) a, ((y.el.getD i []).drop j)[p]? = some a → y.el.flatten[i * y.sz + j + p]? = some a ∧ j + p < y.sz := by
      intro p a e
      rw [List.getElem?_drop] at e
      have hlt := (List.getElem?_eq_some_iff.1 e).1
      rw [hrow] at hlt
      refine ⟨?_, hlt⟩
      have e0 : y.el.flatten = (y.el.take i).flatten ++ ((y.el.getD i []) ++ (y.el.drop (i + 1)).flatten) := by
        rw [← List.flatten_cons, ← List.flatten_append]
        congr 1
        rw [List.getD_eq_getElem?_getD, List.getElem?_eq_getElem hi]
        simp only [Option.getD_some]
        rw [← List.drop_eq_getElem_cons hi, List.take_append_drop]
      have e1 : (y.el.take i).flatten.length = i * y.sz := by
        rw [flatten_len _ (fun r hr => h4 r (List.mem_of_mem_take hr)), List.length_take, Nat.min_eq_left (by omega)]
      rw [e0, List.getElem?_append_right (by omega), e1, List.getElem?_append_left (by omega)]
      rw [← e]; congr 1; omega
    rw [h2]
    have hlen : ((y.el.getD i []).drop j).length = y.sz - j := by rw [List.length_drop, hrow]
    refine VR.rp (N := H.nx) (ρ := ρ) (L := Of H ρ bs) (w := w) cs ⟨(ρ b).k, i * y.sz + j, none⟩ ((vs.drop (i * y.sz + j)).take cs.length) ?_ ?_ ?_
    · rw [List.length_take, List.length_drop, hcs, hlen, h1.1, flatten_len _ h4]
      have : (i + 1) * y.sz ≤ y.el.length * y.sz := Nat.mul_le_mul_right _ hi
      rw [Nat.succ_mul] at this
      omega
    · intro p v hp
      rw [List.getElem?_take] at hp
      split at hp
      · rw [List.getElem?_drop] at hp
        have := h5 _ v hp
        exact ⟨by rw [add_off]; exact this.1, this.2, by rw [add_off]; exact hnl hb hbs⟩
      · cases hp
    · intro p a v e1 e2
      rw [List.getElem?_take] at e2
      split at e2
      · rename_i hlt
        rw [List.getElem?_drop] at e2
        obtain ⟨a0, h0⟩ : ∃ a0, ((y.el.getD i []).drop j)[p]? = some a0 := ⟨_, List.getElem?_eq_getElem (by rw [← hcs]; exact hlt)⟩
        exact ih p a0 a h0 e1 (h1.2 _ a0 v (hfl p a0 h0).1 e2)
      · cases e2
  | agg cs cs' hl _ ih =>
    cases hv with | agg _ vs q1 q2 q3 =>
    refine .agg cs' vs (q1.trans hl.symm) q2 fun p a y e1 e2 => ?_
    obtain ⟨a0, h0⟩ : ∃ a0, cs[p]? = some a0 := ⟨_, List.getElem?_eq_getElem (by rw [← hl]; exact (List.getElem?_eq_some_iff.1 e1).1)⟩
    exact ih p a0 a h0 e1 (q3 p a0 y h0 e2)
  | tup cs cs' hl _ ih =>
    cases hv with | tup _ vs q1 q3 =>
    refine .tup cs' vs (q1.trans hl.symm) fun p a y e1 e2 => ?_
    obtain ⟨a0, h0⟩ : ∃ a0, cs[p]? = some a0 := ⟨_, List.getElem?_eq_getElem (by rw [← hl]; exact (List.getElem?_eq_some_iff.1 e1).1)⟩
    exact ih p a0 a h0 e1 (q3 p a0 y h0 e2)
  | fn f cs cs' hl _ ih =>
    cases hv with | fn _ _ vs q1 q3 =>
    refine .fn f cs' vs (q1.trans hl.symm) fun p a y e1 e2 => ?_
    obtain ⟨a0, h0⟩ : ∃ a0, cs[p]? = some a0 := ⟨_, List.getElem?_eq_getElem (by rw [← hl]; exact (List.getElem?_eq_some_iff.1 e1).1)⟩
    exact ih p a0 a h0 e1 (q3 p a0 y h0 e2)

theorem freezel {H : Heap} {ρ : Nat → Bl} {w : World} (hR : Rel H ρ w) {as as' : List AV} {vs : List Value} (hf : Fzl H [] as as') (hv : VRwl H ρ w as vs) : VRwl (emp H.nx) ρ w as' vs := by
  refine ⟨hv.1.trans hf.len.symm, fun p a y e1 e2 => ?_⟩
  obtain ⟨a0, h0⟩ : ∃ a0, as[p]? = some a0 := ⟨_, List.getElem?_eq_getElem (by rw [← hf.len]; exact (List.getElem?_eq_some_iff.1 e1).1)⟩
  exact (freeze hR (hf.get p a0 a h0 e1) (hv.2 p a0 y h0 e2)).mono (Nat.le_refl _) (fun _ _ => rfl) fun a x h => ⟨h.1, h.2.1, live_emp _ _ _⟩

theorem add_m_old (H : Heap) (X : List Blk) {b : Nat} (h : b < H.nx) : (H.add X).m b = H.m b := by simp only [Heap.add, if_pos h]
theorem emp_add_m {N : Nat} {X : List Blk} {b : Nat} {x : Blk} (h : ((emp N).add X).m b = some x) : ¬ b < N ∧ X[b - N]? = some x := by
  have h' : (if b < N then none else X[b - N]?) = some x := h
  by_cases hb : b < N
  · rw [if_pos hb] at h'; cases h'
  · rw [if_neg hb] at h'; exact ⟨hb, h'⟩

/-- A contract over an empty heap serves where there are blocks: what we give is seen as what nobody writes, and what comes is new. -/
theorem Runs.lift {P : Program} {g : Nat} {as as' : List AV} {H : Heap} {r : AV} {X : List Blk} (h : Runs P g as' (emp H.nx) fun r' H' => r' = r ∧ H' = (emp H.nx).add X) (hf : Fzl H [] as as')
    (hr : NoRo r) (hX : ∀ x, x ∈ X → ∀ l, l ∈ x.el → ∀ a, a ∈ l → NoRo a) : Runs P g as H fun r' H' => r' = r ∧ H' = H.add X := by
  refine Runs.of fun ρ w vs hR hv => ?_
  refine (h.use (rel_emp _ ρ w) (freezel hR hf hv)).mono ?_
  rintro v w' ⟨r', H', ρ', ⟨rfl, rfl⟩, hR', hr', hN⟩
  have hnew : ∀ b x, ((emp H.nx).add X).m b = some x → w.heap.size ≤ (ρ' b).k := fun b x hb => by
    rcases hN.live _ ⟨b, x, hb, rfl⟩ with h' | h'
    · exact (live_emp _ _ _ h').elim
    · exact h'
  have hold : ∀ b x, H.m b = some x → ρ' b = ρ b ∧ (ρ b).k < w.heap.size := fun b x hb => by
    obtain ⟨cur, ty, hk⟩ := hR.blk b x hb
    exact ⟨hN.rho b (hR.lt b x hb), (Array.getElem?_eq_some_iff.1 hk.at_).1⟩
  have hcase : ∀ b x, (H.add X).m b = some x → (b < H.nx ∧ H.m b = some x) ∨ ((emp H.nx).add X).m b = some x ∧ x ∈ X := fun b x hb => by
    simp only [Heap.add] at hb
    split at hb
    · rename_i h; exact .inl ⟨h, hb⟩
    · rename_i h; exact .inr ⟨(if_neg h).trans hb, List.mem_of_getElem? hb⟩
  have hlive : ∀ k, Live (H.add X) ρ' k → Live H ρ k ∨ w.heap.size ≤ k := fun k ⟨b, x, hb, hk⟩ => by
    rcases hcase b x hb with ⟨_, h'⟩ | ⟨h', _⟩
    · exact .inl ⟨b, x, h', by rw [← (hold b x h').1]; exact hk⟩
    · exact .inr (by rw [← hk]; exact hnew b x h')
  have hnx : Nx H ρ w (H.add X) ρ' w' := ⟨Nat.le_add_right _ _, fun b hb => hN.rho b hb, hN.os, hN.tape, hN.output, hN.size, fun k hk _ => hN.heap k hk (live_emp _ _ _), hlive⟩
  refine ⟨r', H.add X, ρ', ⟨rfl, rfl⟩, ⟨?_, ?_, ?_⟩, hr.vr hr', hnx⟩
  · intro b x hb
    rcases hcase b x hb with ⟨h', _⟩ | ⟨h', _⟩
    · exact Nat.lt_of_lt_of_le h' (Nat.le_add_right _ _)
    · exact hR'.lt b x h'
  · intro b x hb
    rcases hcase b x hb with ⟨_, h'⟩ | ⟨h', hm⟩
    · obtain ⟨cur, ty, hk⟩ := hR.blk b x h'
      have e := hold b x h'
      refine ⟨cur, ty, ?_, ?_, ?_, ?_, hk.rows, ?_, hk.ones, ?_⟩
      · rw [e.1, hN.heap _ e.2 (live_emp _ _ _)]; exact hk.at_
      · rw [e.1]; exact hk.sz
      · rw [e.1]; exact hk.size
      · rw [e.1]; exact hk.cap
      · rw [e.1]; exact hk.len
      · exact hnx.vrl hk.rel
    · obtain ⟨cur, ty, hk⟩ := hR'.blk b x h'
      refine ⟨cur, ty, hk.at_, hk.sz, hk.size, hk.cap, hk.rows, hk.len, hk.ones, hk.rel.1, fun p a y e1 e2 => ?_⟩
      obtain ⟨l, hl, ha⟩ := List.mem_flatten.1 (List.mem_of_getElem? e1)
      exact (hX x hm l hl a ha).vr (hk.rel.2 p a y e1 e2)
  · intro b b' x x' hb hb' he
    rcases hcase b x hb with ⟨_, h1⟩ | ⟨h1, _⟩ <;> rcases hcase b' x' hb' with ⟨_, h2⟩ | ⟨h2, _⟩
    · exact hR.inj b b' x x' h1 h2 (by rw [← (hold b x h1).1, ← (hold b' x' h2).1]; exact he)
    · have := hnew b' x' h2; have := (hold b x h1); rw [this.1] at he; omega
    · have := hnew b x h1; have := (hold b' x' h2); rw [this.1] at he; omega
    · exact hR'.inj b b' x x' h1 h2 he
theorem add_nil (H : Heap) (h : ∀ b x, H.m b = some x → b < H.nx) : H.add [] = H := by
  cases H with | mk n m =>
  simp only [Heap.add, List.length_nil, Nat.add_zero, Heap.mk.injEq, true_and]
  funext i
  split
  · rfl
  · rename_i hi
    cases hm : m i with
    | none => simp
    | some x => exact absurd (h i x hm) hi
theorem emp_add_nil (N : Nat) : (emp N).add [] = emp N := add_nil _ fun b x h => by cases h
/-- The same of a function that makes nothing. -/
theorem Runs.pure {P : Program} {g : Nat} {as as' : List AV} {H : Heap} {r : AV} (h : Runs P g as' (emp H.nx) fun r' H' => r' = r ∧ H' = emp H.nx) (hf : Fzl H [] as as') (hr : NoRo r) :
    Runs P g as H fun r' H' => r' = r ∧ H' = H := by
  refine Runs.of fun ρ w vs hR hv => ?_
  have := Runs.lift (X := []) (by rw [emp_add_nil]; exact h) hf hr (fun x hx => by cases hx)
  rw [add_nil H fun b x hb => hR.lt b x hb] at this
  exact this.use hR hv

/-- What a function gives, told without the blocks that are left over: the blocks of bs are new ones from N on, the rest is what nobody writes. -/
inductive Rn (H : Heap) (N : Nat) (bs : List Nat) : AV → AV → Prop where
  | fz (a a' : AV) : Fz H bs a a' → NoRef a' → Rn H N bs a a'
  | own (i b n : Nat) : bs[i]? = some b → Rn H N bs (.own b n) (.own (N + i) n)
  | ptr (i b p q : Nat) : bs[i]? = some b → Rn H N bs (.ptr b p q) (.ptr (N + i) p q)
  | agg (cs cs' : List AV) : cs'.length = cs.length → (∀ (p : Nat) a a', cs[p]? = some a → cs'[p]? = some a' → Rn H N bs a a') → Rn H N bs (.agg cs) (.agg cs')
  | tup (cs cs' : List AV) : cs'.length = cs.length → (∀ (p : Nat) a a', cs[p]? = some a → cs'[p]? = some a' → Rn H N bs a a') → Rn H N bs (.tup cs) (.tup cs')
structure BlkRn (H : Heap) (N : Nat) (bs : List Nat) (x y : Blk) : Prop where
  sz : y.sz = x.sz
  len : y.el.length = x.el.length
  rows : ∀ r, r ∈ y.el → r.length = y.sz
  rel : ∀ (p : Nat) a a', x.el.flatten[p]? = some a → y.el.flatten[p]? = some a' → Rn H N bs a a'

theorem Runs.fin {P : Program} {f : Nat} {as : List AV} {N : Nat} {Q : AV → Heap → Prop} {R : AV} {X : List Blk} (h : Runs P f as (emp N) Q)
    (hq : ∀ r H', Q r H' → ∃ bs : List Nat, bs.length = X.length ∧ bs.Nodup ∧ Rn H' N bs r R ∧ ∀ (i : Nat) b y, bs[i]? = some b → X[i]? = some y → ∃ x, H'.m b = some x ∧ ((∀ r, r ∈ x.el → r.length = x.sz) → BlkRn H' N bs x y)) :
    Runs P f as (emp N) fun r' H' => r' = R ∧ H' = (emp N).add X := by
  refine Runs.of fun ρ w vs hR hv => ?_
  refine (h.use hR hv).mono ?_
  rintro v w' ⟨r, H', ρ', hQ, hR', hr', hN⟩
  obtain ⟨bs, hlen, hnd, hrn, hX⟩ := hq r H' hQ
  have hnx : N ≤ H'.nx := hN.nx
  obtain ⟨ρ2, h2a, h2b⟩ : ∃ ρ2 : Nat → Bl, (∀ b, b < N → ρ2 b = ρ' b) ∧ ∀ i b, bs[i]? = some b → ρ2 (N + i) = ρ' b := by
    refine ⟨fun b => if b < N then ρ' b else match bs[b - N]? with | some b' => ρ' b' | none => ρ' b, fun b hb => if_pos hb, fun i b hb => ?_⟩
    show (if N + i < N then ρ' (N + i) else match bs[N + i - N]? with | some b' => ρ' b' | none => ρ' (N + i)) = ρ' b
    rw [if_neg (by omega), Nat.add_sub_cancel_left, hb]
  have hblk : ∀ c y, ((emp N).add X).m c = some y → ∃ i b x, c = N + i ∧ bs[i]? = some b ∧ X[i]? = some y ∧ H'.m b = some x ∧ BlkRn H' N bs x y := fun c y hc => by
    obtain ⟨h1, h3⟩ := emp_add_m hc
    have hlt := (List.getElem?_eq_some_iff.1 h3).1
    obtain ⟨b, hb⟩ : ∃ b, bs[c - N]? = some b := ⟨_, List.getElem?_eq_getElem (by rw [hlen]; exact hlt)⟩
    obtain ⟨x, hx, hk⟩ := hX (c - N) b y hb h3
    obtain ⟨cur, ty, ho⟩ := hR'.blk b x hx
    exact ⟨c - N, b, x, by omega, hb, h3, hx, hk ho.rows⟩
  have hL : ∀ k, Live ((emp N).add X) ρ2 k → Of H' ρ' bs k := fun k ⟨c, y, hc, hk⟩ => by
    obtain ⟨i, b, x, rfl, h1, h3, h4, _⟩ := hblk c y hc
    exact ⟨b, x, List.mem_of_getElem? h1, h4, by rw [← h2b i b h1]; exact hk⟩
  have key : ∀ {a a' : AV} {u : Value}, Rn H' N bs a a' → VRw H' ρ' w' a u → VRw ((emp N).add X) ρ2 w' a' u := by
    intro a a' u hra
    induction hra generalizing u with
    | fz a a' h1 h3 => intro hu; exact h3.vr (fun k _ h => hL k h) (freeze hR' h1 hu)
    | own i b n hb =>
      intro hu
      cases hu with | own _ _ c q1 q2 q3 =>
      rw [← h2b i b hb]
      have hi := (List.getElem?_eq_some_iff.1 hb).1
      exact .own (N + i) n c (by show N + i < N + X.length; omega) q2 (by rw [h2b i b hb]; exact q3)
    | ptr i b p q hb =>
      intro hu
      cases hu with | ptr _ _ _ q1 =>
      rw [← h2b i b hb]
      have hi := (List.getElem?_eq_some_iff.1 hb).1
      exact .ptr (N + i) p q (by show N + i < N + X.length; omega)
    | agg cs cs' hl _ ih =>
      intro hu
      cases hu with | agg _ vs q1 q2 q3 =>
      refine .agg cs' vs (q1.trans hl.symm) q2 fun p a y e1 e2 => ?_
      obtain ⟨a0, h0⟩ : ∃ a0, cs[p]? = some a0 := ⟨_, List.getElem?_eq_getElem (by rw [← hl]; exact (List.getElem?_eq_some_iff.1 e1).1)⟩
      exact ih p a0 a h0 e1 (q3 p a0 y h0 e2)
    | tup cs cs' hl _ ih =>
      intro hu
      cases hu with | tup _ vs q1 q3 =>
      refine .tup cs' vs (q1.trans hl.symm) fun p a y e1 e2 => ?_
      obtain ⟨a0, h0⟩ : ∃ a0, cs[p]? = some a0 := ⟨_, List.getElem?_eq_getElem (by rw [← hl]; exact (List.getElem?_eq_some_iff.1 e1).1)⟩
      exact ih p a0 a h0 e1 (q3 p a0 y h0 e2)
  refine ⟨R, (emp N).add X, ρ2, ⟨rfl, rfl⟩, ⟨?_, ?_, ?_⟩, key hrn hr', ⟨Nat.le_add_right _ _, fun b hb => (h2a b hb).trans (hN.rho b hb), hN.os, hN.tape, hN.output, hN.size, hN.heap, ?_⟩⟩
  · intro c y hc
    obtain ⟨i, b, x, rfl, h1, h3, _⟩ := hblk c y hc
    have := (List.getElem?_eq_some_iff.1 h3).1
    show N + i < N + X.length
    omega
  · intro c y hc
    obtain ⟨i, b, x, rfl, h1, h3, h4, hk⟩ := hblk c y hc
    obtain ⟨cur, ty, ho⟩ := hR'.blk b x h4
    have e := h2b i b h1
    have eN : y.el.length * y.sz = x.el.length * x.sz := by rw [hk.len, hk.sz]
    refine ⟨cur, ty, by rw [e]; exact ho.at_, by rw [e, hk.sz]; exact ho.sz, by rw [e, hk.sz]; exact ho.size, by rw [e]; exact ho.cap, hk.rows, by rw [e, hk.len]; exact ho.len, by rw [eN]; exact ho.ones, ?_, ?_⟩
    · rw [eN, ho.rel.1, flatten_len _ ho.rows, flatten_len _ hk.rows, eN]
    · intro p a u e1 e2
      rw [eN] at e2
      obtain ⟨a0, h0⟩ : ∃ a0, x.el.flatten[p]? = some a0 := ⟨_, List.getElem?_eq_getElem (by
        have := (List.getElem?_eq_some_iff.1 e1).1
        rw [flatten_len _ hk.rows, eN] at this
        rw [flatten_len _ ho.rows]; exact this)⟩
      exact key (hk.rel p a0 a h0 e1) (ho.rel.2 p a0 u h0 e2)
  · intro c c' y y' hc hc' he
    obtain ⟨i, b, x, rfl, h1, h3, h4, _⟩ := hblk c y hc
    obtain ⟨i', b', x', rfl, h1', h3', h4', _⟩ := hblk c' y' hc'
    rw [h2b i b h1, h2b i' b' h1'] at he
    have := hR'.inj b b' x x' h4 h4' he
    subst this
    have := (List.getElem?_inj (List.getElem?_eq_some_iff.1 h1).1 hnd).1 (h1.trans h1'.symm)
    omega
  · intro k hk
    obtain ⟨b, x, _, h1, h3⟩ := hL k hk
    exact hN.live k ⟨b, x, h1, h3⟩

/-- A function that gives nothing of its own. -/
theorem Runs.fin0 {P : Program} {f : Nat} {as : List AV} {N : Nat} {Q : AV → Heap → Prop} {R : AV} (h : Runs P f as (emp N) Q) (hq : ∀ r H', Q r H' → Fz H' [] r R) (hR : NoRef R) :
    Runs P f as (emp N) fun r' H' => r' = R ∧ H' = emp N := by
  have := Runs.fin (X := []) h fun r H' k => ⟨[], rfl, List.nodup_nil, .fz r R (hq r H' k) hR, fun i b y h => by simp at h⟩
  rw [emp_add_nil] at this
  exact this
theorem BlkRn.same {H : Heap} {N : Nat} {bs : List Nat} {x : Blk} (h : ∀ r, r ∈ x.el → ∀ a, a ∈ r → NoRef a) (hr : ∀ r, r ∈ x.el → r.length = x.sz) : BlkRn H N bs x x :=
  ⟨rfl, rfl, hr, fun p a a' e1 e2 => by
    rw [e1] at e2; cases e2
    obtain ⟨l, hl, ha⟩ := List.mem_flatten.1 (List.mem_of_getElem? e1)
    have := h l hl a ha
    exact .fz a a (.same a (.inr this)) this⟩
/-- A function that gives one new slice. -/
theorem Runs.fin1 {P : Program} {f : Nat} {as : List AV} {N n : Nat} {Q : AV → Heap → Prop} {x : Blk} (h : Runs P f as (emp N) Q) (hq : ∀ r H', Q r H' → ∃ b, r = .own b n ∧ H'.m b = some x)
    (hx : ∀ r, r ∈ x.el → ∀ a, a ∈ r → NoRef a) : Runs P f as (emp N) fun r' H' => r' = .own N n ∧ H' = (emp N).add [x] := by
  refine Runs.fin h fun r H' k => ?_
  obtain ⟨b, rfl, hb⟩ := hq r H' k
  refine ⟨[b], rfl, by simp, .own 0 b n rfl, fun i c y h1 h2 => ?_⟩
  cases i with
  | zero => cases h1; cases h2; exact ⟨x, hb, BlkRn.same hx⟩
  | succ i => simp at h1
end Go.Abs
