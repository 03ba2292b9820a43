/- Operations on abstract states: what is to be shown of each, before what follows. Laws of the model alone. -/
import Derived.Test.YtpaflfaokgapgaaA2
import Derived.Laws.BytesArg
namespace Go.Abs

/-- Operations, their types' layout laid in. -/
inductive MOp where
  | mv (x : Operand)
  | pick (c a b : Operand)
  | not (x : Operand)
  | neg (x : Operand)
  | bin (op : BinOp) (c : Nat) (x y : Operand)
  | alloc (zero : List Value)
  | box (x : Operand)
  | build (zero : List Value) (parts : List (Nat × Nat × Operand))
  | lit (sz : Nat) (parts : List Operand)
  | load (agg : Bool) (n : Nat) (x : Operand)
  | store (n : Nat) (x y : Operand)
  | nilck (x : Operand)
  | fa (off : Nat) (x : Operand)
  | fld (agg : Bool) (off n : Nat) (x : Operand)
  | ia (sz : Nat) (x i : Operand)
  | iaa (len sz : Nat) (x i : Operand)
  | idx (x i : Operand)
  | ext (x : Operand) (k : Nat)
  | mkf (f : Nat) (caps : List Operand)
  | mks (zero : List Value) (bytes : Nat) (n : Operand)
  | slc (sz : Nat) (x : Operand) (lo hi : Option Operand)
  | sstr (x : Operand) (lo hi : Option Operand)
  | conv (k : IntKind) (x : Operand)
  | bstr (x : Operand)
  | len (str : Bool) (x : Operand)
  | app (sz bytes : Nat) (x y : Operand)
  | mn (x y : Operand)
  | mx (x y : Operand)
  | call (f : Operand) (args : List Operand)

/-- An operand's abstract value. -/
def ev (E : List AV) : Operand → AV
  | .tmp t => E.getD t .any
  | .const x => .v x
  | .func f => .fn f []
  | .global _ => .any

/-- A value's leaves. -/
def cellsOf : AV → List AV
  | .agg cs => cs
  | x => [x]
/-- Is it sure that it has just one cell? -/
def leafB : AV → Bool
  | .v x => x.oneCell'
  | .agg _ | .tup _ | .any => false
  | _ => true
def storable : AV → Bool
  | .agg _ => true
  | x => leafB x
def pack (agg : Bool) (cs : List AV) : AV := if agg then .agg cs else cs.getD 0 .any
def splice (cs : List AV) (off : Nat) (ys : List AV) : List AV := cs.take off ++ ys ++ cs.drop (off + ys.length)
def byteAt (s : ByteArray) (i : Int) : Int := ((s[i.toNat]?.getD 0).toNat : Int)

/-- Comparisons and arithmetic. c: 1, the type is bool; 2, a slice. -/
def vcBin (op : BinOp) (c : Nat) (K : Value → Prop) : AV → AV → Prop
  | .v (.int k a), .v (.int k' b) => k = k' ∧
    match op with
    | .add => K (.int k (k.wrap (a + b)))
    | .sub => K (.int k (k.wrap (a - b)))
    | .mul => K (.int k (k.wrap (a * b)))
    | .quo => b ≠ 0 ∧ K (.int k (k.wrap (a.tdiv b)))
    | .rem => b ≠ 0 ∧ K (.int k (a.tmod b))
    | .eql => K (.bool (a == b))
    | .neq => K (.bool (a != b))
    | .lss => K (.bool (decide (a < b)))
    | .leq => K (.bool (decide (a ≤ b)))
    | .gtr => K (.bool (decide (a > b)))
    | .geq => K (.bool (decide (a ≥ b)))
    | _ => False
  | .v (.string a), .v (.string b) =>
    match op with
    | .add => a.size + b.size ≤ 9223372036854775807 ∧ K (.string (a ++ b))
    | .eql => K (.bool (a.toList == b.toList))
    | .neq => K (.bool (!(a.toList == b.toList)))
    | .lss => K (.bool (Op.bytesLess a.toList b.toList))
    | .leq => K (.bool (Op.bytesLess a.toList b.toList || a.toList == b.toList))
    | .gtr => K (.bool (!(Op.bytesLess a.toList b.toList || a.toList == b.toList)))
    | .geq => K (.bool (!(Op.bytesLess a.toList b.toList)))
    | _ => False
  | .v (.bool a), .v (.bool b) => c = 1 ∧
    match op with
    | .eql => K (.bool (a == b))
    | .neq => K (.bool (!(a == b)))
    | _ => False
  | .v (.slice none _ _), .v (.slice none _ _) => c = 2 ∧
    match op with
    | .eql => K (.bool true)
    | .neq => K (.bool false)
    | _ => False
  | .own _ _, .v (.slice none _ _) => c = 2 ∧
    match op with
    | .eql => K (.bool false)
    | .neq => K (.bool true)
    | _ => False
  | _, _ => False

/-- The elements that a slice has, where they can be told. -/
def elems (sz : Nat) (H : Heap) : AV → Option (List (List AV))
  | .ro s xs => if s = sz then some xs else none
  | .own b n => match H.m b with
    | some x => if x.sz = sz ∧ n ≤ x.el.length then some (x.el.take n) else none
    | none => none
  | .v (.slice none 0 _) => some []
  | _ => none

/-- A cut's bounds. -/
def bound (E : List AV) (d : Int) : Option Operand → Option Int
  | none => some d
  | some x => match ev E x with
    | .v (.int _ i) => some i
    | _ => none

def fillA (E : List AV) : List (Nat × Nat × Operand) → List AV → Option (List AV)
  | [], cs => some cs
  | (off, n, x) :: rest, cs => if (storable (ev E x) && (cellsOf (ev E x)).length == n && decide (off + n ≤ cs.length)) = true then fillA E rest (splice cs off (cellsOf (ev E x))) else none

/-- Bytes of rows of one byte. -/
def bytesOf : List (List AV) → Option (List Int)
  | [] => some []
  | [.v (.int .u8 k)] :: l => match bytesOf l with
    | some ns => some (k :: ns)
    | none => none
  | _ :: _ => none

def Out (P : Program) (r : Result Next) (R : Value → World → Prop) : Prop :=
  match r with
  | .ok (.value v) w' => R v w'
  | .ok .skip w' => R undef w'
  | .ok (.enter f args) w' => Calls P f args w' fun e w'' => ∃ v, e = .returned v ∧ R v w''
  | _ => False

theorem Out.mono {P : Program} {r : Result Next} {R R' : Value → World → Prop} (h : Out P r R) (hr : ∀ v w', R v w' → R' v w') : Out P r R' := by
  unfold Out at *
  split
  · exact hr _ _ h
  · exact hr _ _ h
  · exact Calls.mono h fun e w' ⟨v, h1, h2⟩ => ⟨v, h1, hr _ _ h2⟩
  · rename_i h1 h2 h3
    split at h
    · exact absurd rfl (h1 _ _)
    · exact absurd rfl (h2 _)
    · exact absurd rfl (h3 _ _ _)
    · exact h.elim

def Post (K : AV → Heap → Prop) (H : Heap) (ρ : Nat → Bl) (w : World) (x : Value) (w' : World) : Prop :=
  ∃ r H' ρ', K r H' ∧ Rel H' ρ' w' ∧ VRw H' ρ' w' r x ∧ Nx H ρ w H' ρ' w'

/-- What a call of function f does: of arguments so told it returns a value of which Q holds. -/
@[irreducible] def Runs (P : Program) (f : Nat) (as : List AV) (H : Heap) (Q : AV → Heap → Prop) : Prop :=
  ∀ (ρ : Nat → Bl) (w : World) (vs : List Value), Rel H ρ w → VRwl H ρ w as vs → Out P ((callFunc f vs.toArray).run P w) (Post Q H ρ w)

theorem Runs.use {P : Program} {f : Nat} {as : List AV} {H : Heap} {Q : AV → Heap → Prop} (h : Runs P f as H Q) {ρ : Nat → Bl} {w : World} {vs : List Value} (hR : Rel H ρ w) (hv : VRwl H ρ w as vs) :
    Out P ((callFunc f vs.toArray).run P w) (Post Q H ρ w) := by
  unfold Runs at h; exact h ρ w vs hR hv
theorem Runs.of {P : Program} {f : Nat} {as : List AV} {H : Heap} {Q : AV → Heap → Prop}
    (h : ∀ (ρ : Nat → Bl) (w : World) (vs : List Value), Rel H ρ w → VRwl H ρ w as vs → Out P ((callFunc f vs.toArray).run P w) (Post Q H ρ w)) : Runs P f as H Q := by
  unfold Runs; exact h
theorem Runs.mono {P : Program} {f : Nat} {as : List AV} {H : Heap} {Q Q' : AV → Heap → Prop} (h : Runs P f as H Q) (hq : ∀ r H', Q r H' → Q' r H') : Runs P f as H Q' :=
  Runs.of fun _ _ _ hR hv => (h.use hR hv).mono fun _ _ ⟨r, H', ρ', h2, h3⟩ => ⟨r, H', ρ', hq _ _ h2, h3⟩

/-- What is to be shown of one operation, K being what follows. -/
def vcOp (P : Program) (o : MOp) (K : AV → Heap → Prop) (H : Heap) (E : List AV) : Prop :=
  match o with
  | .mv x => K (ev E x) H
  | .pick c a b => match ev E c with
    | .v (.bool p) => K (bif p then ev E a else ev E b) H
    | _ => False
  | .not x => match ev E x with
    | .v (.bool p) => K (.v (.bool !p)) H
    | _ => False
  | .neg x => match ev E x with
    | .v (.int k n) => K (.v (.int k (k.wrap (0 - n)))) H
    | _ => False
  | .bin op c x y => vcBin op c (fun r => K (.v r) H) (ev E x) (ev E y)
  | .alloc zero => K (.ptr H.nx 0 0) (H.alloc ⟨zero.length, [zero.map .v]⟩)
  | .box x => storable (ev E x) = true ∧ K (.ptr H.nx 0 0) (H.alloc ⟨(cellsOf (ev E x)).length, [cellsOf (ev E x)]⟩)
  | .build zero parts => match fillA E parts (zero.map .v) with
    | some cs => K (.agg cs) H
    | none => False
  | .lit sz parts => (parts.all fun x => storable (ev E x) && (cellsOf (ev E x)).length == sz) = true ∧ K (.own H.nx parts.length) (H.alloc ⟨sz, parts.map fun x => cellsOf (ev E x)⟩)
  | .load agg n x => match ev E x with
    | .rp cs => n ≤ cs.length ∧ K (pack agg (cs.take n)) H
    | .ptr b i j => match H.m b with
      | some x => i < x.el.length ∧ j + n ≤ x.sz ∧ K (pack agg (((x.el.getD i []).drop j).take n)) H
      | none => False
    | _ => False
  | .store n x y => match ev E x with
    | .ptr b i j => match H.m b with
      | some x => storable (ev E y) = true ∧ (cellsOf (ev E y)).length = n ∧ i < x.el.length ∧ j + n ≤ x.sz ∧
          K .any (H.upd b ⟨x.sz, x.el.set i (splice (x.el.getD i []) j (cellsOf (ev E y)))⟩)
      | none => False
    | _ => False
  | .nilck x => match ev E x with
    | .ptr b i j => K (.ptr b i j) H
    | .rp cs => K (.rp cs) H
    | _ => False
  | .fa off x => match ev E x with
    | .ptr b i j => K (.ptr b i (j + off)) H
    | .rp cs => K (.rp (cs.drop off)) H
    | _ => False
  | .fld agg off n x => match ev E x with
    | .agg cs => off + n ≤ cs.length ∧ K (pack agg ((cs.drop off).take n)) H
    | _ => False
  | .ia sz x i => match ev E x, ev E i with
    | .ro s xs, .v (.int _ i) => s = sz ∧ 0 ≤ i ∧ i < xs.length ∧ K (.rp (xs.getD i.toNat [])) H
    | .own b n, .v (.int _ i) => match H.m b with
      | some x => x.sz = sz ∧ 0 ≤ i ∧ i < n ∧ K (.ptr b i.toNat 0) H
      | none => False
    | _, _ => False
  | .iaa len sz x i => match ev E x, ev E i with
    | .ptr b i0 j, .v (.int _ i) => 0 ≤ i ∧ i < len ∧ K (.ptr b i0 (j + i.toNat * sz)) H
    | _, _ => False
  | .idx x i => match ev E x, ev E i with
    | .v (.string s), .v (.int _ i) => 0 ≤ i ∧ i < s.size ∧ K (.v (.int .u8 (byteAt s i))) H
    | _, _ => False
  | .ext x k => match ev E x with
    | .tup vs => k < vs.length ∧ K (vs.getD k .any) H
    | _ => False
  | .mkf f caps => K (.fn f (caps.map (ev E))) H
  | .mks zero bytes n => match ev E n with
    | .v (.int _ i) => 0 ≤ i ∧ bytes * i ≤ 281474976710656 ∧ K (.own H.nx i.toNat) (H.alloc ⟨zero.length, List.replicate i.toNat (zero.map .v)⟩)
    | _ => False
  | .slc sz x lo hi => match ev E x with
    | .ro s xs => match bound E 0 lo, bound E xs.length hi with
      | some l, some h => s = sz ∧ 0 ≤ l ∧ l ≤ h ∧ h ≤ xs.length ∧ K (.ro s ((xs.take h.toNat).drop l.toNat)) H
      | _, _ => False
    | .own b n => match bound E 0 lo, bound E n hi with
      | some l, some h => l = 0 ∧ 0 ≤ h ∧ h ≤ n ∧ K (.own b h.toNat) H
      | _, _ => False
    | _ => False
  | .sstr x lo hi => match ev E x with
    | .v (.string s) => match bound E 0 lo, bound E s.size hi with
      | some l, some h => 0 ≤ l ∧ l ≤ h ∧ h ≤ s.size ∧ K (.v (.string (s.extract l.toNat h.toNat))) H
      | _, _ => False
    | _ => False
  | .conv k x => match ev E x with
    | .v (.int _ n) => K (.v (.int k (k.wrap n))) H
    | _ => False
  | .bstr x => match ev E x with
    | .own b n => match H.m b with
      | some x => match bytesOf (x.el.take n) with
        | some ns => x.sz = 1 ∧ n ≤ x.el.length ∧ K (.v (.string (strOfNums ns))) H
        | none => False
      | none => False
    | _ => False
  | .len c x => if c then (match ev E x with
      | .v (.string s) => K (.v (.int .i64 s.size)) H
      | _ => False) else match ev E x with
    | .ro _ xs => K (.v (.int .i64 xs.length)) H
    | .own _ n => K (.v (.int .i64 n)) H
    | .v (.slice _ n _) => K (.v (.int .i64 n)) H
    | _ => False
  | .app sz bytes x y => match elems sz H (ev E y) with
    | some ys => match ev E x with
      | .v (.slice none 0 0) => (ys = [] → K (.v (.slice none 0 0)) H) ∧ (ys ≠ [] → ys.length * bytes ≤ 140737488355328 ∧ K (.own H.nx ys.length) (H.alloc ⟨sz, ys⟩))
      | .own b n => match H.m b with
        | some x => n ≤ x.el.length ∧ x.sz = sz ∧ (n + ys.length) * bytes ≤ 140737488355328 ∧ K (.own H.nx (n + ys.length)) ((H.kill b).alloc ⟨sz, x.el.take n ++ ys⟩)
        | none => False
      | _ => False
    | none => False
  | .mn x y => match ev E x, ev E y with
    | .v (.int k a), .v (.int _ b) => K (.v (.int k (if b < a then b else a))) H
    | _, _ => False
  | .mx x y => match ev E x, ev E y with
    | .v (.int k a), .v (.int _ b) => K (.v (.int k (if b > a then b else a))) H
    | _, _ => False
  | .call f args => match ev E f with
    | .fn g caps => ∃ Q, Runs P g (args.map (ev E) ++ caps) H Q ∧ ∀ r H', Q r H' → K r H'
    | _ => False

/-- An operation with its place and its guard. -/
structure CO where
  dst : Option Nat
  guard : Option (Nat × Bool)
  op : MOp

def setE (E : List AV) : Option Nat → AV → List AV
  | some d, x => E.set d x
  | none, _ => E

/-- One operation after the other. -/
def vcOps (P : Program) : List CO → (Heap → List AV → Prop) → Heap → List AV → Prop
  | [], K, H, E => K H E
  | o :: l, K, H, E => match o.guard with
    | none => vcOp P o.op (fun r H' => vcOps P l K H' (setE E o.dst r)) H E
    | some (t, want) => match ev E (.tmp t) with
      | .v (.bool p) => (p = want → vcOp P o.op (fun r H' => vcOps P l K H' (setE E o.dst r)) H E) ∧ (p = !want → vcOps P l K H (setE E o.dst (.v undef)))
      | .v (.tuple _) => vcOps P l K H (setE E o.dst (.v undef))
      | _ => False
end Go.Abs
