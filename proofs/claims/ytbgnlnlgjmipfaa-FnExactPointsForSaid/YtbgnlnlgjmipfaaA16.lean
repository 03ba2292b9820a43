/- Running code on abstract states: an equation an operation. Laws of the model alone. -/
import Derived.Test.YtbgnlnlgjmipfaaA15
set_option linter.unusedSimpArgs false
namespace Go.Abs
theorem vcBin_val {op : BinOp} {c : Nat} {K : Value → Prop} {x y : AV} (hv : vcBin op c K x y) : ∃ v, K v ∧ ∀ K' : Value → Prop, K' v → vcBin op c K' x y := by
  unfold vcBin at *
  split at hv
  · obtain ⟨hk, hv⟩ := hv
    cases op <;> first | exact hv.elim | exact ⟨_, hv, fun K' k => ⟨hk, k⟩⟩ | exact ⟨_, hv.2, fun K' k => ⟨hk, hv.1, k⟩⟩
  · cases op <;> first | exact hv.elim | exact ⟨_, hv, fun K' k => k⟩ | exact ⟨_, hv.2, fun K' k => ⟨hv.1, k⟩⟩
  all_goals first
    | exact hv.elim
    | (obtain ⟨hk, hv⟩ := hv; cases op <;> first | exact hv.elim | exact ⟨_, hv, fun K' k => ⟨hk, k⟩⟩)
def pureOp : MOp → Bool
  | .alloc _ | .box _ | .lit _ _ | .store _ _ _ | .mks _ _ _ | .app _ _ _ _ | .call _ _ => false
  | _ => true
/-- An operation that changes nothing of ours has one value. -/
theorem pure_val {P : Program} {G : AV → Prop} {H : Heap} {E : List AV} (op : MOp) (hp : pureOp op = true) (h : vcOp P op (fun r _ => G r) H E) : ∃ r, G r ∧ ∀ K' : AV → Heap → Prop, K' r H → vcOp P op K' H E := by
  cases op
  case bin op c x y =>
    obtain ⟨v, h1, h2⟩ := vcBin_val (K := fun r => G (.v r)) (op := op) (c := c) (x := ev E x) (y := ev E y) h
    exact ⟨.v v, h1, fun K' k => h2 (fun r => K' (.v r) H) k⟩
  all_goals first | (simp only [pureOp, Bool.false_eq_true] at hp; done) | skip
  all_goals
    simp only [vcOp] at h
    (repeat' split at h)
    all_goals first
      | exact h.elim
      | (refine ⟨_, h, fun K' k => ?_⟩; simp only [vcOp, *, and_self, if_true, Bool.false_eq_true, if_false]; done)
      | (refine ⟨_, h.2, fun K' k => ?_⟩; simp only [vcOp, *, and_self]; done)
      | (refine ⟨_, h.2.2, fun K' k => ?_⟩; simp only [vcOp, *, and_self]; done)
      | (refine ⟨_, h.2.2.2, fun K' k => ?_⟩; simp only [vcOp, *, and_self]; done)
      | (obtain ⟨h1, h2, h3, h4, h5⟩ := h; subst h1; refine ⟨_, h5, fun K' k => ?_⟩; simp only [vcOp, *, and_self]; done)
theorem q_of {P : Program} (op : MOp) (hp : pureOp op = true) (d : Option Nat) (ops : List CO) (H : Heap) (E : List AV) (G : List AV → Prop) (X : Prop) (hX : X = vcOp P op (fun r _ => vcQ P H ops G (setE E d r)) H E) : vcQ P H (⟨d, none, op⟩ :: ops) G E = X := by
  subst hX
  apply propext; constructor
  · intro ⟨r, h, k⟩
    exact vcOp_mono (K' := fun r' _ => vcQ P H ops G (setE E d r')) _ (fun r' H' e => by rw [e.1]; exact k) h
  · intro h
    obtain ⟨r, h1, h2⟩ := pure_val op hp h
    exact ⟨r, h2 (fun r' H' => r' = r ∧ H' = H) ⟨rfl, rfl⟩, h1⟩
section
variable (P : Program) (d : Option Nat) (ops : List CO) (K : Heap → List AV → Prop) (H : Heap) (E : List AV) (G : List AV → Prop)
theorem r_mv (x : Operand) : vcOps P (⟨d, none, .mv x⟩ :: ops) K H E = vcOps P ops K H (setE E d (ev E x)) := rfl
theorem r_pick (c a b : Operand) : vcOps P (⟨d, none, .pick c a b⟩ :: ops) K H E = match ev E c with
    | .v (.bool p) => vcOps P ops K H (setE E d (bif p then ev E a else ev E b))
    | _ => False := rfl
theorem r_not (x : Operand) : vcOps P (⟨d, none, .not x⟩ :: ops) K H E = match ev E x with
    | .v (.bool p) => vcOps P ops K H (setE E d (.v (.bool !p)))
    | _ => False := rfl
theorem r_neg (x : Operand) : vcOps P (⟨d, none, .neg x⟩ :: ops) K H E = match ev E x with
    | .v (.int k n) => vcOps P ops K H (setE E d (.v (.int k (k.wrap (0 - n)))))
    | _ => False := rfl
theorem r_bin (op : BinOp) (c : Nat) (x y : Operand) : vcOps P (⟨d, none, .bin op c x y⟩ :: ops) K H E = vcBin op c (fun r => vcOps P ops K H (setE E d (.v r))) (ev E x) (ev E y) := rfl
theorem r_alloc (zero : List Value) : vcOps P (⟨d, none, .alloc zero⟩ :: ops) K H E = vcOps P ops K (H.alloc ⟨zero.length, [zero.map .v]⟩) (setE E d (.ptr H.nx 0 0)) := rfl
theorem r_box (x : Operand) : vcOps P (⟨d, none, .box x⟩ :: ops) K H E = (storable (ev E x) = true ∧ vcOps P ops K (H.alloc ⟨(cellsOf (ev E x)).length, [cellsOf (ev E x)]⟩) (setE E d (.ptr H.nx 0 0))) := rfl
theorem r_build (zero : List Value) (parts : List (Nat × Nat × Operand)) : vcOps P (⟨d, none, .build zero parts⟩ :: ops) K H E = match fillA E parts (zero.map .v) with
    | some cs => vcOps P ops K H (setE E d (.agg cs))
    | none => False := rfl
theorem r_lit (sz : Nat) (parts : List Operand) : vcOps P (⟨d, none, .lit sz parts⟩ :: ops) K H E = ((parts.all fun x => storable (ev E x) && (cellsOf (ev E x)).length == sz) = true ∧ vcOps P ops K (H.alloc ⟨sz, parts.map fun x => cellsOf (ev E x)⟩) (setE E d (.own H.nx parts.length))) := rfl
theorem r_load (agg : Bool) (n : Nat) (x : Operand) : vcOps P (⟨d, none, .load agg n x⟩ :: ops) K H E = match ev E x with
    | .rp cs => n ≤ cs.length ∧ vcOps P ops K H (setE E d (pack agg (cs.take n)))
    | .ptr b i j => match H.m b with
      | some x => i < x.el.length ∧ j + n ≤ x.sz ∧ vcOps P ops K H (setE E d (pack agg (((x.el.getD i []).drop j).take n)))
      | none => False
    | _ => False := rfl
theorem r_store (n : Nat) (x y : Operand) : vcOps P (⟨d, none, .store n x y⟩ :: ops) K H E = match ev E x with
    | .ptr b i j => match H.m b with
      | some x => storable (ev E y) = true ∧ (cellsOf (ev E y)).length = n ∧ i < x.el.length ∧ j + n ≤ x.sz ∧
          vcOps P ops K (H.upd b ⟨x.sz, x.el.set i (splice (x.el.getD i []) j (cellsOf (ev E y)))⟩) (setE E d .any)
      | none => False
    | _ => False := rfl
theorem r_nilck (x : Operand) : vcOps P (⟨d, none, .nilck x⟩ :: ops) K H E = match ev E x with
    | .ptr b i j => vcOps P ops K H (setE E d (.ptr b i j))
    | .rp cs => vcOps P ops K H (setE E d (.rp cs))
    | _ => False := rfl
theorem r_fa (off : Nat) (x : Operand) : vcOps P (⟨d, none, .fa off x⟩ :: ops) K H E = match ev E x with
    | .ptr b i j => vcOps P ops K H (setE E d (.ptr b i (j + off)))
    | .rp cs => vcOps P ops K H (setE E d (.rp (cs.drop off)))
    | _ => False := rfl
theorem r_fld (agg : Bool) (off n : Nat) (x : Operand) : vcOps P (⟨d, none, .fld agg off n x⟩ :: ops) K H E = match ev E x with
    | .agg cs => off + n ≤ cs.length ∧ vcOps P ops K H (setE E d (pack agg ((cs.drop off).take n)))
    | _ => False := rfl
theorem r_ia (sz : Nat) (x i : Operand) : vcOps P (⟨d, none, .ia sz x i⟩ :: ops) K H E = match ev E x, ev E i with
    | .ro s xs, .v (.int _ i) => s = sz ∧ 0 ≤ i ∧ i < xs.length ∧ vcOps P ops K H (setE E d (.rp (xs.getD i.toNat [])))
    | .own b n, .v (.int _ i) => match H.m b with
      | some x => x.sz = sz ∧ 0 ≤ i ∧ i < n ∧ vcOps P ops K H (setE E d (.ptr b i.toNat 0))
      | none => False
    | _, _ => False := rfl
theorem r_iaa (len sz : Nat) (x i : Operand) : vcOps P (⟨d, none, .iaa len sz x i⟩ :: ops) K H E = match ev E x, ev E i with
    | .ptr b i0 j, .v (.int _ i) => 0 ≤ i ∧ i < len ∧ vcOps P ops K H (setE E d (.ptr b i0 (j + i.toNat * sz)))
    | _, _ => False := rfl
theorem r_idx (x i : Operand) : vcOps P (⟨d, none, .idx x i⟩ :: ops) K H E = match ev E x, ev E i with
    | .v (.string s), .v (.int _ i) => 0 ≤ i ∧ i < s.size ∧ vcOps P ops K H (setE E d (.v (.int .u8 (byteAt s i))))
    | _, _ => False := rfl
theorem r_ext (x : Operand) (k : Nat) : vcOps P (⟨d, none, .ext x k⟩ :: ops) K H E = match ev E x with
    | .tup vs => k < vs.length ∧ vcOps P ops K H (setE E d (vs.getD k .any))
    | _ => False := rfl
theorem r_mkf (f : Nat) (caps : List Operand) : vcOps P (⟨d, none, .mkf f caps⟩ :: ops) K H E = vcOps P ops K H (setE E d (.fn f (caps.map (ev E)))) := rfl
theorem r_mks (zero : List Value) (bytes : Nat) (n : Operand) : vcOps P (⟨d, none, .mks zero bytes n⟩ :: ops) K H E = match ev E n with
    | .v (.int _ i) => 0 ≤ i ∧ bytes * i ≤ 281474976710656 ∧ vcOps P ops K (H.alloc ⟨zero.length, List.replicate i.toNat (zero.map .v)⟩) (setE E d (.own H.nx i.toNat))
    | _ => False := rfl
theorem r_slc (sz : Nat) (x : Operand) (lo hi : Option Operand) : vcOps P (⟨d, none, .slc sz x lo hi⟩ :: ops) K H E = match ev E x with
    | .ro s xs => match bound E 0 lo, bound E xs.length hi with
      | some l, some h => s = sz ∧ 0 ≤ l ∧ l ≤ h ∧ h ≤ xs.length ∧ vcOps P ops K H (setE E d (.ro s ((xs.take h.toNat).drop l.toNat)))
      | _, _ => False
    | .own b n => match bound E 0 lo, bound E n hi with
      | some l, some h => l = 0 ∧ 0 ≤ h ∧ h ≤ n ∧ vcOps P ops K H (setE E d (.own b h.toNat))
      | _, _ => False
    | _ => False := rfl
theorem r_sstr (x : Operand) (lo hi : Option Operand) : vcOps P (⟨d, none, .sstr x lo hi⟩ :: ops) K H E = match ev E x with
    | .v (.string s) => match bound E 0 lo, bound E s.size hi with
      | some l, some h => 0 ≤ l ∧ l ≤ h ∧ h ≤ s.size ∧ vcOps P ops K H (setE E d (.v (.string (s.extract l.toNat h.toNat))))
      | _, _ => False
    | _ => False := rfl
theorem r_bstr (x : Operand) : vcOps P (⟨d, none, .bstr x⟩ :: ops) K H E = match ev E x with
    | .own b n => match H.m b with
      | some x => match bytesOf (x.el.take n) with
        | some ns => x.sz = 1 ∧ n ≤ x.el.length ∧ vcOps P ops K H (setE E d (.v (.string (strOfNums ns))))
        | none => False
      | none => False
    | _ => False := rfl
theorem r_conv (k : IntKind) (x : Operand) : vcOps P (⟨d, none, .conv k x⟩ :: ops) K H E = match ev E x with
    | .v (.int _ n) => vcOps P ops K H (setE E d (.v (.int k (k.wrap n))))
    | _ => False := rfl
theorem r_lenS (x : Operand) : vcOps P (⟨d, none, .len true x⟩ :: ops) K H E = match ev E x with
    | .v (.string s) => vcOps P ops K H (setE E d (.v (.int .i64 s.size)))
    | _ => False := rfl
theorem r_len (x : Operand) : vcOps P (⟨d, none, .len false x⟩ :: ops) K H E = match ev E x with
    | .ro _ xs => vcOps P ops K H (setE E d (.v (.int .i64 xs.length)))
    | .own _ n => vcOps P ops K H (setE E d (.v (.int .i64 n)))
    | .v (.slice _ n _) => vcOps P ops K H (setE E d (.v (.int .i64 n)))
    | _ => False := rfl
theorem r_app (sz bytes : Nat) (x y : Operand) : vcOps P (⟨d, none, .app sz bytes x y⟩ :: ops) K H E = match elems sz H (ev E y) with
    | some ys => match ev E x with
      | .v (.slice none 0 0) => (ys = [] → vcOps P ops K H (setE E d (.v (.slice none 0 0)))) ∧ (ys ≠ [] → ys.length * bytes ≤ 140737488355328 ∧ vcOps P ops K (H.alloc ⟨sz, ys⟩) (setE E d (.own H.nx ys.length)))
      | .own b n => match H.m b with
        | some x => n ≤ x.el.length ∧ x.sz = sz ∧ (n + ys.length) * bytes ≤ 140737488355328 ∧ vcOps P ops K ((H.kill b).alloc ⟨sz, x.el.take n ++ ys⟩) (setE E d (.own H.nx (n + ys.length)))
        | none => False
      | _ => False
    | none => False := rfl
theorem r_mn (x y : Operand) : vcOps P (⟨d, none, .mn x y⟩ :: ops) K H E = match ev E x, ev E y with
    | .v (.int k a), .v (.int _ b) => vcOps P ops K H (setE E d (.v (.int k (if b < a then b else a))))
    | _, _ => False := rfl
theorem r_mx (x y : Operand) : vcOps P (⟨d, none, .mx x y⟩ :: ops) K H E = match ev E x, ev E y with
    | .v (.int k a), .v (.int _ b) => vcOps P ops K H (setE E d (.v (.int k (if b > a then b else a))))
    | _, _ => False := rfl
theorem q_mv (x : Operand) : vcQ P H (⟨d, none, .mv x⟩ :: ops) G E = vcQ P H ops G (setE E d (ev E x)) :=
  q_of _ rfl _ _ _ _ _ _ rfl
theorem q_pick (c a b : Operand) : vcQ P H (⟨d, none, .pick c a b⟩ :: ops) G E = match ev E c with
    | .v (.bool p) => vcQ P H ops G (setE E d (bif p then ev E a else ev E b))
    | _ => False :=
  q_of _ rfl _ _ _ _ _ _ rfl
theorem q_not (x : Operand) : vcQ P H (⟨d, none, .not x⟩ :: ops) G E = match ev E x with
    | .v (.bool p) => vcQ P H ops G (setE E d (.v (.bool !p)))
    | _ => False :=
  q_of _ rfl _ _ _ _ _ _ rfl
theorem q_neg (x : Operand) : vcQ P H (⟨d, none, .neg x⟩ :: ops) G E = match ev E x with
    | .v (.int k n) => vcQ P H ops G (setE E d (.v (.int k (k.wrap (0 - n)))))
    | _ => False :=
  q_of _ rfl _ _ _ _ _ _ rfl
theorem q_bin (op : BinOp) (c : Nat) (x y : Operand) : vcQ P H (⟨d, none, .bin op c x y⟩ :: ops) G E = vcBin op c (fun r => vcQ P H ops G (setE E d (.v r))) (ev E x) (ev E y) :=
  q_of _ rfl _ _ _ _ _ _ rfl
theorem q_build (zero : List Value) (parts : List (Nat × Nat × Operand)) : vcQ P H (⟨d, none, .build zero parts⟩ :: ops) G E = match fillA E parts (zero.map .v) with
    | some cs => vcQ P H ops G (setE E d (.agg cs))
    | none => False :=
  q_of _ rfl _ _ _ _ _ _ rfl
theorem q_load (agg : Bool) (n : Nat) (x : Operand) : vcQ P H (⟨d, none, .load agg n x⟩ :: ops) G E = match ev E x with
    | .rp cs => n ≤ cs.length ∧ vcQ P H ops G (setE E d (pack agg (cs.take n)))
    | .ptr b i j => match H.m b with
      | some x => i < x.el.length ∧ j + n ≤ x.sz ∧ vcQ P H ops G (setE E d (pack agg (((x.el.getD i []).drop j).take n)))
      | none => False
    | _ => False :=
  q_of _ rfl _ _ _ _ _ _ rfl
theorem q_nilck (x : Operand) : vcQ P H (⟨d, none, .nilck x⟩ :: ops) G E = match ev E x with
    | .ptr b i j => vcQ P H ops G (setE E d (.ptr b i j))
    | .rp cs => vcQ P H ops G (setE E d (.rp cs))
    | _ => False :=
  q_of _ rfl _ _ _ _ _ _ rfl
theorem q_fa (off : Nat) (x : Operand) : vcQ P H (⟨d, none, .fa off x⟩ :: ops) G E = match ev E x with
    | .ptr b i j => vcQ P H ops G (setE E d (.ptr b i (j + off)))
    | .rp cs => vcQ P H ops G (setE E d (.rp (cs.drop off)))
    | _ => False :=
  q_of _ rfl _ _ _ _ _ _ rfl
theorem q_fld (agg : Bool) (off n : Nat) (x : Operand) : vcQ P H (⟨d, none, .fld agg off n x⟩ :: ops) G E = match ev E x with
    | .agg cs => off + n ≤ cs.length ∧ vcQ P H ops G (setE E d (pack agg ((cs.drop off).take n)))
    | _ => False :=
  q_of _ rfl _ _ _ _ _ _ rfl
theorem q_ia (sz : Nat) (x i : Operand) : vcQ P H (⟨d, none, .ia sz x i⟩ :: ops) G E = match ev E x, ev E i with
    | .ro s xs, .v (.int _ i) => s = sz ∧ 0 ≤ i ∧ i < xs.length ∧ vcQ P H ops G (setE E d (.rp (xs.getD i.toNat [])))
    | .own b n, .v (.int _ i) => match H.m b with
      | some x => x.sz = sz ∧ 0 ≤ i ∧ i < n ∧ vcQ P H ops G (setE E d (.ptr b i.toNat 0))
      | none => False
    | _, _ => False :=
  q_of _ rfl _ _ _ _ _ _ rfl
theorem q_iaa (len sz : Nat) (x i : Operand) : vcQ P H (⟨d, none, .iaa len sz x i⟩ :: ops) G E = match ev E x, ev E i with
    | .ptr b i0 j, .v (.int _ i) => 0 ≤ i ∧ i < len ∧ vcQ P H ops G (setE E d (.ptr b i0 (j + i.toNat * sz)))
    | _, _ => False :=
  q_of _ rfl _ _ _ _ _ _ rfl
theorem q_idx (x i : Operand) : vcQ P H (⟨d, none, .idx x i⟩ :: ops) G E = match ev E x, ev E i with
    | .v (.string s), .v (.int _ i) => 0 ≤ i ∧ i < s.size ∧ vcQ P H ops G (setE E d (.v (.int .u8 (byteAt s i))))
    | _, _ => False :=
  q_of _ rfl _ _ _ _ _ _ rfl
theorem q_ext (x : Operand) (k : Nat) : vcQ P H (⟨d, none, .ext x k⟩ :: ops) G E = match ev E x with
    | .tup vs => k < vs.length ∧ vcQ P H ops G (setE E d (vs.getD k .any))
    | _ => False :=
  q_of _ rfl _ _ _ _ _ _ rfl
theorem q_mkf (f : Nat) (caps : List Operand) : vcQ P H (⟨d, none, .mkf f caps⟩ :: ops) G E = vcQ P H ops G (setE E d (.fn f (caps.map (ev E)))) :=
  q_of _ rfl _ _ _ _ _ _ rfl
theorem q_slc (sz : Nat) (x : Operand) (lo hi : Option Operand) : vcQ P H (⟨d, none, .slc sz x lo hi⟩ :: ops) G E = match ev E x with
    | .ro s xs => match bound E 0 lo, bound E xs.length hi with
      | some l, some h => s = sz ∧ 0 ≤ l ∧ l ≤ h ∧ h ≤ xs.length ∧ vcQ P H ops G (setE E d (.ro s ((xs.take h.toNat).drop l.toNat)))
      | _, _ => False
    | .own b n => match bound E 0 lo, bound E n hi with
      | some l, some h => l = 0 ∧ 0 ≤ h ∧ h ≤ n ∧ vcQ P H ops G (setE E d (.own b h.toNat))
      | _, _ => False
    | _ => False :=
  q_of _ rfl _ _ _ _ _ _ rfl
theorem q_sstr (x : Operand) (lo hi : Option Operand) : vcQ P H (⟨d, none, .sstr x lo hi⟩ :: ops) G E = match ev E x with
    | .v (.string s) => match bound E 0 lo, bound E s.size hi with
      | some l, some h => 0 ≤ l ∧ l ≤ h ∧ h ≤ s.size ∧ vcQ P H ops G (setE E d (.v (.string (s.extract l.toNat h.toNat))))
      | _, _ => False
    | _ => False :=
  q_of _ rfl _ _ _ _ _ _ rfl
theorem q_bstr (x : Operand) : vcQ P H (⟨d, none, .bstr x⟩ :: ops) G E = match ev E x with
    | .own b n => match H.m b with
      | some x => match bytesOf (x.el.take n) with
        | some ns => x.sz = 1 ∧ n ≤ x.el.length ∧ vcQ P H ops G (setE E d (.v (.string (strOfNums ns))))
        | none => False
      | none => False
    | _ => False :=
  q_of _ rfl _ _ _ _ _ _ rfl
theorem q_conv (k : IntKind) (x : Operand) : vcQ P H (⟨d, none, .conv k x⟩ :: ops) G E = match ev E x with
    | .v (.int _ n) => vcQ P H ops G (setE E d (.v (.int k (k.wrap n))))
    | _ => False :=
  q_of _ rfl _ _ _ _ _ _ rfl
theorem q_lenS (x : Operand) : vcQ P H (⟨d, none, .len true x⟩ :: ops) G E = match ev E x with
    | .v (.string s) => vcQ P H ops G (setE E d (.v (.int .i64 s.size)))
    | _ => False :=
  q_of _ rfl _ _ _ _ _ _ rfl
theorem q_len (x : Operand) : vcQ P H (⟨d, none, .len false x⟩ :: ops) G E = match ev E x with
    | .ro _ xs => vcQ P H ops G (setE E d (.v (.int .i64 xs.length)))
    | .own _ n => vcQ P H ops G (setE E d (.v (.int .i64 n)))
    | .v (.slice _ n _) => vcQ P H ops G (setE E d (.v (.int .i64 n)))
    | _ => False :=
  q_of _ rfl _ _ _ _ _ _ rfl
theorem q_mn (x y : Operand) : vcQ P H (⟨d, none, .mn x y⟩ :: ops) G E = match ev E x, ev E y with
    | .v (.int k a), .v (.int _ b) => vcQ P H ops G (setE E d (.v (.int k (if b < a then b else a))))
    | _, _ => False :=
  q_of _ rfl _ _ _ _ _ _ rfl
theorem q_mx (x y : Operand) : vcQ P H (⟨d, none, .mx x y⟩ :: ops) G E = match ev E x, ev E y with
    | .v (.int k a), .v (.int _ b) => vcQ P H ops G (setE E d (.v (.int k (if b > a then b else a))))
    | _, _ => False :=
  q_of _ rfl _ _ _ _ _ _ rfl
end
theorem ev_tmp (E : List AV) (t : Nat) : ev E (.tmp t) = E.getD t .any := rfl
theorem ev_const (E : List AV) (x : Value) : ev E (.const x) = .v x := rfl
theorem ev_func (E : List AV) (f : Nat) : ev E (.func f) = .fn f [] := rfl
theorem end_normal (rs : List RV) (Q : AV → Heap → Prop) (H : Heap) (E : List AV) : vcEnd rs Q .normal H E = vcRet rs Q H E := rfl
theorem end_ret (rs : List RV) (Q : AV → Heap → Prop) (H : Heap) (E : List AV) : vcEnd rs Q .ret H E = vcRet rs Q H E := rfl
theorem ret_one (t : Nat) (Q : AV → Heap → Prop) (H : Heap) (E : List AV) : vcRet [.tmp t] Q H E = Q (E.getD t .any) H := rfl
theorem ret_two (t u : Nat) (Q : AV → Heap → Prop) (H : Heap) (E : List AV) : vcRet [.tmp t, .tmp u] Q H E = Q (.tup [E.getD t .any, E.getD u .any]) H := rfl
theorem ret_three (t u v : Nat) (Q : AV → Heap → Prop) (H : Heap) (E : List AV) : vcRet [.tmp t, .tmp u, .tmp v] Q H E = Q (.tup [E.getD t .any, E.getD u .any, E.getD v .any]) H := rfl
theorem then_normal (N : Heap → List AV → Prop) (K : Exit → Heap → List AV → Prop) (H : Heap) (E : List AV) : andThen N K .normal H E = N H E := rfl
theorem then_exit (N : Heap → List AV → Prop) (K : Exit → Heap → List AV → Prop) (i : Nat) (H : Heap) (E : List AV) : andThen N K (.exit i) H E = K (.exit i) H E := rfl
theorem then_ret (N : Heap → List AV → Prop) (K : Exit → Heap → List AV → Prop) (H : Heap) (E : List AV) : andThen N K .ret H E = K .ret H E := rfl
theorem blk_normal (id : Nat) (K : Exit → Heap → List AV → Prop) (H : Heap) (E : List AV) : inBlk id K .normal H E = K .normal H E := rfl
theorem blk_ret (id : Nat) (K : Exit → Heap → List AV → Prop) (H : Heap) (E : List AV) : inBlk id K .ret H E = K .ret H E := rfl
theorem blk_exit (id i : Nat) (K : Exit → Heap → List AV → Prop) (H : Heap) (E : List AV) : inBlk id K (.exit i) H E = if i = id then K .normal H E else K (.exit i) H E := rfl
theorem setE_some (E : List AV) (d : Nat) (r : AV) : setE E (some d) r = E.set d r := rfl
theorem setE_none (E : List AV) (r : AV) : setE E none r = E := rfl
theorem bif_v (p : Bool) (a b : Bool) : (bif p then AV.v (.bool a) else AV.v (.bool b)) = .v (.bool (bif p then a else b)) := by cases p <;> rfl
theorem pack_true (cs : List AV) : pack true cs = .agg cs := rfl
theorem pack_false (cs : List AV) : pack false cs = cs.getD 0 .any := rfl
theorem Heap.alloc_nx (H : Heap) (x : Blk) : (H.alloc x).nx = H.nx + 1 := rfl
theorem Heap.upd_nx (H : Heap) (b : Nat) (x : Blk) : (H.upd b x).nx = H.nx := rfl
theorem Heap.kill_nx (H : Heap) (b : Nat) : (H.kill b).nx = H.nx := rfl
theorem Heap.alloc_m (H : Heap) (x : Blk) (b : Nat) : (H.alloc x).m b = if b = H.nx then some x else H.m b := rfl
theorem Heap.upd_m (H : Heap) (c : Nat) (x : Blk) (b : Nat) : (H.upd c x).m b = if b = c then some x else H.m b := rfl
theorem Heap.kill_m (H : Heap) (c : Nat) (b : Nat) : (H.kill c).m b = if b = c then none else H.m b := rfl
end Go.Abs
