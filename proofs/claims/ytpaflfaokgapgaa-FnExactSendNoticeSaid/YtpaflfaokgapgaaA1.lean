/- The abstract states: values, blocks of the call's own, and how they lie in the machine's memory. What follows is a law of the model alone: no program is named. -/
import Derived.WalkKit
import Derived.Laws.AppendOwn
import Derived.Deep.MidRow
namespace Go.Abs

/-- Abstract values: an exact value; a slice that nobody writes; a slice of a block of our own; a pointer into one; a pointer to cells that nobody writes; a struct's leaves; a tuple; a function value; anything. -/
inductive AV where
  | v (x : Value)
  | ro (sz : Nat) (xs : List (List AV))
  | own (b n : Nat)
  | ptr (b i j : Nat)
  | rp (cs : List AV)
  | agg (cs : List AV)
  | tup (vs : List AV)
  | fn (f : Nat) (caps : List AV)
  | any

structure Blk where
  sz : Nat
  el : List (List AV)

structure Heap where
  nx : Nat
  m : Nat → Option Blk

/-- Where a block of our own lies: its number in memory, its capacity in elements, an element's cells. -/
structure Bl where
  k : Nat
  cap : Nat
  sz : Nat

def Heap.alloc (H : Heap) (x : Blk) : Heap := ⟨H.nx + 1, fun i => if i = H.nx then some x else H.m i⟩
def Heap.upd (H : Heap) (b : Nat) (x : Blk) : Heap := ⟨H.nx, fun i => if i = b then some x else H.m i⟩
def Heap.kill (H : Heap) (b : Nat) : Heap := ⟨H.nx, fun i => if i = b then none else H.m i⟩
def Heap.drop (H : Heap) (n : Nat) : Heap := ⟨n, fun i => if i < n then H.m i else none⟩

def Live (H : Heap) (ρ : Nat → Bl) (k : Nat) : Prop := ∃ b x, H.m b = some x ∧ (ρ b).k = k

/-- A cell in memory that nobody of ours writes. -/
def Cell (L : Nat → Prop) (w : World) (a : Addr) (x : Value) : Prop := w.cell? a = some x ∧ x.oneCell' = true ∧ ¬ L a.block

inductive VR (N : Nat) (ρ : Nat → Bl) (L : Nat → Prop) (w : World) : AV → Value → Prop where
  | v (x : Value) : VR N ρ L w (.v x) x
  | any (x : Value) : VR N ρ L w .any x
  | own (b n c : Nat) : b < N → n ≤ c → c ≤ (ρ b).cap → VR N ρ L w (.own b n) (.slice (some ⟨(ρ b).k, 0, none⟩) n c)
  | ptr (b i j : Nat) : b < N → VR N ρ L w (.ptr b i j) (.pointer (some ⟨(ρ b).k, i * (ρ b).sz + j, none⟩))
  | ro (sz : Nat) (xs : List (List AV)) (a : Option Addr) (c : Nat) (vs : List Value) : (∀ r, r ∈ xs → r.length = sz) → xs.length ≤ c →
      vs.length = xs.flatten.length → (xs ≠ [] → ∃ ad, a = some ad ∧ ∀ (p : Nat) (x : Value), vs[p]? = some x → Cell L w (ad.add p) x) →
      (∀ (p : Nat) (av : AV) (x : Value), xs.flatten[p]? = some av → vs[p]? = some x → VR N ρ L w av x) → VR N ρ L w (.ro sz xs) (.slice a xs.length c)
  | rp (cs : List AV) (ad : Addr) (vs : List Value) : vs.length = cs.length → (∀ (p : Nat) (x : Value), vs[p]? = some x → Cell L w (ad.add p) x) →
      (∀ (p : Nat) (av : AV) (x : Value), cs[p]? = some av → vs[p]? = some x → VR N ρ L w av x) → VR N ρ L w (.rp cs) (.pointer (some ad))
  | agg (cs : List AV) (vs : List Value) : vs.length = cs.length → (∀ x, x ∈ vs → x.oneCell' = true) →
      (∀ (p : Nat) (av : AV) (x : Value), cs[p]? = some av → vs[p]? = some x → VR N ρ L w av x) → VR N ρ L w (.agg cs) (.agg vs.toArray)
  | tup (cs : List AV) (vs : List Value) : vs.length = cs.length →
      (∀ (p : Nat) (av : AV) (x : Value), cs[p]? = some av → vs[p]? = some x → VR N ρ L w av x) → VR N ρ L w (.tup cs) (.tuple vs.toArray)
  | fn (f : Nat) (cs : List AV) (vs : List Value) : vs.length = cs.length →
      (∀ (p : Nat) (av : AV) (x : Value), cs[p]? = some av → vs[p]? = some x → VR N ρ L w av x) → VR N ρ L w (.fn f cs) (.func (.func f) #[] vs.toArray)

/-- Lists of values, one by one. -/
def VRl (N : Nat) (ρ : Nat → Bl) (L : Nat → Prop) (w : World) (cs : List AV) (vs : List Value) : Prop :=
  vs.length = cs.length ∧ ∀ (p : Nat) (av : AV) (x : Value), cs[p]? = some av → vs[p]? = some x → VR N ρ L w av x

def Ones (vs : List Value) : Prop := ∀ x, x ∈ vs → x.oneCell' = true

structure BlkOk (H : Heap) (ρ : Nat → Bl) (w : World) (b : Nat) (x : Blk) (cur : Array Value) (ty : TypeId) : Prop where
  at_ : w.heap[(ρ b).k]? = some (.cells cur ty (0, 0))
  sz : (ρ b).sz = x.sz
  size : cur.size = (ρ b).cap * x.sz
  cap : (ρ b).cap ≤ maxLen
  rows : ∀ r, r ∈ x.el → r.length = x.sz
  len : x.el.length ≤ (ρ b).cap
  ones : Ones (cur.toList.take (x.el.length * x.sz))
  rel : VRl H.nx ρ (Live H ρ) w x.el.flatten (cur.toList.take (x.el.length * x.sz))

structure Rel (H : Heap) (ρ : Nat → Bl) (w : World) : Prop where
  lt : ∀ b x, H.m b = some x → b < H.nx
  blk : ∀ b x, H.m b = some x → ∃ cur ty, BlkOk H ρ w b x cur ty
  inj : ∀ b b' x x', H.m b = some x → H.m b' = some x' → (ρ b).k = (ρ b').k → b = b'

abbrev VRw (H : Heap) (ρ : Nat → Bl) (w : World) : AV → Value → Prop := VR H.nx ρ (Live H ρ) w
abbrev VRwl (H : Heap) (ρ : Nat → Bl) (w : World) : List AV → List Value → Prop := VRl H.nx ρ (Live H ρ) w

/-- From one state to a later one. -/
structure Nx (H : Heap) (ρ : Nat → Bl) (w : World) (H' : Heap) (ρ' : Nat → Bl) (w' : World) : Prop where
  nx : H.nx ≤ H'.nx
  rho : ∀ b, b < H.nx → ρ' b = ρ b
  os : w'.os = w.os
  tape : w'.tape = w.tape
  output : w'.output = w.output
  size : w.heap.size ≤ w'.heap.size
  heap : ∀ k, k < w.heap.size → ¬ Live H ρ k → w'.heap[k]? = w.heap[k]?
  live : ∀ k, Live H' ρ' k → Live H ρ k ∨ w.heap.size ≤ k

theorem Nx.refl (H : Heap) (ρ : Nat → Bl) (w : World) : Nx H ρ w H ρ w := ⟨Nat.le_refl _, fun _ _ => rfl, rfl, rfl, rfl, Nat.le_refl _, fun _ _ _ => rfl, fun _ h => .inl h⟩
theorem Nx.trans {H H1 H2 : Heap} {ρ ρ1 ρ2 : Nat → Bl} {w w1 w2 : World} (h : Nx H ρ w H1 ρ1 w1) (k : Nx H1 ρ1 w1 H2 ρ2 w2) : Nx H ρ w H2 ρ2 w2 where
  nx := Nat.le_trans h.nx k.nx
  rho b hb := (k.rho b (Nat.lt_of_lt_of_le hb h.nx)).trans (h.rho b hb)
  os := k.os.trans h.os
  tape := k.tape.trans h.tape
  output := k.output.trans h.output
  size := Nat.le_trans h.size k.size
  heap i hi hl := by
    rw [k.heap i (Nat.lt_of_lt_of_le hi h.size) (fun hl' => by rcases h.live i hl' with h' | h'; exact hl h'; omega)]
    exact h.heap i hi hl
  live i hi := by
    rcases k.live i hi with h' | h'
    · exact h.live i h'
    · exact .inr (Nat.le_trans h.size h')

theorem add_block (a : Addr) (p : Nat) : (a.add p).block = a.block := by unfold Addr.add; split <;> rfl

/-- What is told of a value stays true later. -/
theorem VR.mono {N N' : Nat} {ρ ρ' : Nat → Bl} {L L' : Nat → Prop} {w w' : World} (hN : N ≤ N') (hρ : ∀ b, b < N → ρ' b = ρ b)
    (hc : ∀ (a : Addr) x, Cell L w a x → Cell L' w' a x) {av : AV} {x : Value} (h : VR N ρ L w av x) : VR N' ρ' L' w' av x := by
  induction h with
  | v x => exact .v x
  | any x => exact .any x
  | own b n c hb h1 h2 =>
    have := VR.own (ρ := ρ') (L := L') (w := w') b n c (Nat.lt_of_lt_of_le hb hN) h1 (by rw [hρ b hb]; exact h2)
    rw [hρ b hb] at this; exact this
  | ptr b i j hb =>
    have := VR.ptr (ρ := ρ') (L := L') (w := w') b i j (Nat.lt_of_lt_of_le hb hN)
    rw [hρ b hb] at this; exact this
  | ro sz xs a c vs h1 h2 h3 h4 h5 ih =>
    refine .ro sz xs a c vs h1 h2 h3 (fun he => ?_) ih
    obtain ⟨ad, ha, hcell⟩ := h4 he
    exact ⟨ad, ha, fun p x hp => hc _ x (hcell p x hp)⟩
  | rp cs ad vs h1 h2 h3 ih => exact .rp cs ad vs h1 (fun p x hp => hc _ x (h2 p x hp)) ih
  | agg cs vs h1 h2 h3 ih => exact .agg cs vs h1 h2 ih
  | tup cs vs h1 h2 ih => exact .tup cs vs h1 ih
  | fn f cs vs h1 h2 ih => exact .fn f cs vs h1 ih

theorem VRl.mono {N N' : Nat} {ρ ρ' : Nat → Bl} {L L' : Nat → Prop} {w w' : World} (hN : N ≤ N') (hρ : ∀ b, b < N → ρ' b = ρ b)
    (hc : ∀ (a : Addr) x, Cell L w a x → Cell L' w' a x) {cs : List AV} {vs : List Value} (h : VRl N ρ L w cs vs) : VRl N' ρ' L' w' cs vs :=
  ⟨h.1, fun p av x h1 h2 => (h.2 p av x h1 h2).mono hN hρ hc⟩

theorem Nx.cell {H H' : Heap} {ρ ρ' : Nat → Bl} {w w' : World} (h : Nx H ρ w H' ρ' w') (a : Addr) (x : Value) (hc : Cell (Live H ρ) w a x) : Cell (Live H' ρ') w' a x := by
  have hb := World.block_lt_of_cell? w a hc.1
  refine ⟨?_, hc.2.1, fun hl => ?_⟩
  · rw [World.cell?_of_block (h.heap a.block hb hc.2.2)]; exact hc.1
  · rcases h.live _ hl with h' | h'
    · exact hc.2.2 h'
    · omega
theorem Nx.vr {H H' : Heap} {ρ ρ' : Nat → Bl} {w w' : World} (h : Nx H ρ w H' ρ' w') {av : AV} {x : Value} (hv : VRw H ρ w av x) : VRw H' ρ' w' av x :=
  VR.mono h.nx h.rho h.cell hv
theorem Nx.vrl {H H' : Heap} {ρ ρ' : Nat → Bl} {w w' : World} (h : Nx H ρ w H' ρ' w') {cs : List AV} {vs : List Value} (hv : VRwl H ρ w cs vs) : VRwl H' ρ' w' cs vs :=
  VRl.mono h.nx h.rho h.cell hv
end Go.Abs
