/- Bundles of our equations, for one call of simp. Laws of the model alone. -/
import Derived.Test.YtpaflfaokgapgaaA18
namespace Go.Abs
/-- A heap, its blocks written out; the first entry of a block counts. -/
def look : List (Nat × Option Blk) → Nat → Option Blk
  | [], _ => none
  | (b, x) :: l, i => if i = b then x else look l i
def hl (M : Nat) (l : List (Nat × Option Blk)) : Heap := ⟨M, look l⟩
theorem emp_hl (N : Nat) : emp N = hl N [] := rfl
theorem hl_nx (M : Nat) (l : List (Nat × Option Blk)) : (hl M l).nx = M := rfl
theorem hl_m (M : Nat) (l : List (Nat × Option Blk)) (b : Nat) : (hl M l).m b = look l b := rfl
theorem hl_alloc (M : Nat) (l : List (Nat × Option Blk)) (x : Blk) : (hl M l).alloc x = hl (M + 1) ((M, some x) :: l) := rfl
theorem hl_upd (M : Nat) (l : List (Nat × Option Blk)) (b : Nat) (x : Blk) : (hl M l).upd b x = hl M ((b, some x) :: l) := rfl
theorem hl_kill (M : Nat) (l : List (Nat × Option Blk)) (b : Nat) : (hl M l).kill b = hl M ((b, none) :: l) := rfl
theorem look_nil (i : Nat) : look [] i = none := rfl
theorem look_same (b : Nat) (x : Option Blk) (l : List (Nat × Option Blk)) : look ((b, x) :: l) b = x := by simp [look]
theorem look_else {i b : Nat} (h : (i = b) = False) (x : Option Blk) (l : List (Nat × Option Blk)) : look ((b, x) :: l) i = look l i := by simp [look, h]
theorem dr_nil (M : Nat) (H : Heap) : Dr (hl M []) H = (M = H.nx) := by
  apply propext; constructor
  · exact fun h => h.1
  · exact fun h => ⟨h, fun b x h => by cases h⟩
theorem dr_one (M b : Nat) (x : Blk) (H : Heap) : Dr (hl M [(b, some x)]) H = (M = H.nx ∧ H.m b = some x) := by
  apply propext; constructor
  · exact fun h => ⟨h.1, h.2 b x (look_same _ _ _)⟩
  · refine fun h => ⟨h.1, fun c y hc => ?_⟩
    have hc' : (if c = b then some x else none) = some y := hc
    split at hc'
    · rename_i e; subst e; cases hc'; exact h.2
    · cases hc'
theorem dr_two (M b c : Nat) (x y : Blk) (H : Heap) (hb : H.m b = some x) (hc : H.m c = some y) (hM : M = H.nx) : Dr (hl M [(b, some x), (c, some y)]) H := by
  refine ⟨hM, fun i z hi => ?_⟩
  have hi' : (if i = b then some x else if i = c then some y else none) = some z := hi
  split at hi'
  · rename_i e; subst e; cases hi'; exact hb
  · split at hi'
    · rename_i e; subst e; cases hi'; exact hc
    · cases hi'
theorem n_1 (n k : Nat) : (n = n + (k + 1)) = False := by simp
theorem n_2 (n k : Nat) : (n + (k + 1) = n) = False := by simp
theorem n_3 (n k m : Nat) : (n + k = n + m) = (k = m) := by simp
theorem n_4 (n k m : Nat) : n + k + m = n + (k + m) := Nat.add_assoc n k m
theorem some_eq (x y : Blk) : (some x = some y) = (x = y) := by simp
theorem len_cb (a : Blk) (l : List Blk) : (a :: l).length = l.length + 1 := rfl
theorem len_cl (a : List AV) (l : List (List AV)) : (a :: l).length = l.length + 1 := rfl
theorem len_nl : ([] : List (List AV)).length = 0 := rfl
theorem getD_zl (a : List AV) (l : List (List AV)) : (a :: l).getD 0 [] = a := rfl
theorem set_zl (a b : List AV) (l : List (List AV)) : (a :: l).set 0 b = b :: l := rfl
theorem cells_agg (cs : List AV) : cellsOf (.agg cs) = cs := rfl
theorem cells_v (x : Value) : cellsOf (.v x) = [.v x] := rfl
theorem cells_own (b n : Nat) : cellsOf (.own b n) = [.own b n] := rfl
theorem cells_ptr (b i j : Nat) : cellsOf (.ptr b i j) = [.ptr b i j] := rfl
theorem cells_ro (s : Nat) (xs : List (List AV)) : cellsOf (.ro s xs) = [.ro s xs] := rfl
theorem st_agg (cs : List AV) : storable (.agg cs) = true := rfl
theorem st_own (b n : Nat) : storable (.own b n) = true := rfl
theorem st_ptr (b i j : Nat) : storable (.ptr b i j) = true := rfl
theorem st_ro (s : Nat) (xs : List (List AV)) : storable (.ro s xs) = true := rfl
theorem st_int (k : IntKind) (n : Int) : storable (.v (.int k n)) = true := rfl
theorem st_str (s : ByteArray) : storable (.v (.string s)) = true := rfl
theorem st_bool (b : Bool) : storable (.v (.bool b)) = true := rfl
theorem cells_fn (f : Nat) (xs : List AV) : cellsOf (.fn f xs) = [.fn f xs] := rfl
theorem cells_rp (xs : List AV) : cellsOf (.rp xs) = [.rp xs] := rfl
theorem st_fn (f : Nat) (xs : List AV) : storable (.fn f xs) = true := rfl
theorem st_rp (xs : List AV) : storable (.rp xs) = true := rfl
theorem st_nil (n m : Nat) : storable (.v (.slice none n m)) = true := rfl
theorem splice_zero (c : AV) (cs ys : List AV) (y : AV) : splice (c :: cs) 0 (y :: ys) = y :: splice cs 0 ys := by simp [splice]
theorem splice_nil (cs : List AV) : splice cs 0 [] = cs := by simp [splice]
theorem splice_succ (n : Nat) (c : AV) (cs ys : List AV) : splice (c :: cs) (n + 1) ys = c :: splice cs n ys := by simp [splice, Nat.add_right_comm]
theorem cast_0 : ((0 : Nat) : Int) = 0 := rfl
theorem undef_tuple : undef = .tuple #[] := rfl
theorem all_no (f : Operand → Bool) : [].all f = true := rfl
theorem all_co (f : Operand → Bool) (a : Operand) (l : List Operand) : (a :: l).all f = (f a && l.all f) := rfl
theorem take_s2 (n : Nat) (a : List AV) (l : List (List AV)) : (a :: l).take (n + 1) = a :: l.take n := rfl
theorem take_z2 (l : List (List AV)) : l.take 0 = [] := List.take_zero
theorem z_add (n : Nat) : 0 + n = n := Nat.zero_add n
theorem dec_true : decide True = true := rfl
theorem dec_false : decide False = false := rfl
theorem set_zero (a b : AV) (l : List AV) : (a :: l).set 0 b = b :: l := rfl
theorem set_succ (n : Nat) (a b : AV) (l : List AV) : (a :: l).set (n + 1) b = a :: l.set n b := rfl
theorem getD_zero (a b : AV) (l : List AV) : (a :: l).getD 0 b = a := rfl
theorem getD_succ (n : Nat) (a b : AV) (l : List AV) : (a :: l).getD (n + 1) b = l.getD n b := rfl
theorem cnd_t (a b : AV) : (bif true then a else b) = a := rfl
theorem cnd_f (a b : AV) : (bif false then a else b) = b := rfl
theorem cndb_t (a b : Bool) : (bif true then a else b) = a := rfl
theorem cndb_f (a b : Bool) : (bif false then a else b) = b := rfl
theorem map_co (f : Operand → AV) (a : Operand) (l : List Operand) : (a :: l).map f = f a :: l.map f := rfl
theorem map_no (f : Operand → AV) : [].map f = [] := rfl
theorem map_cv (f : Value → AV) (a : Value) (l : List Value) : (a :: l).map f = f a :: l.map f := rfl
theorem map_nv (f : Value → AV) : [].map f = [] := rfl
theorem map_cl (f : Operand → List AV) (a : Operand) (l : List Operand) : (a :: l).map f = f a :: l.map f := rfl
theorem map_nl (f : Operand → List AV) : [].map f = [] := rfl
theorem take_so (n : Nat) (a : CO) (l : List CO) : (a :: l).take (n + 1) = a :: l.take n := rfl
theorem take_zo (l : List CO) : l.take 0 = [] := List.take_zero
theorem drop_so (n : Nat) (a : CO) (l : List CO) : (a :: l).drop (n + 1) = l.drop n := rfl
theorem drop_zo (l : List CO) : l.drop 0 = l := rfl
theorem take_sa (n : Nat) (a : AV) (l : List AV) : (a :: l).take (n + 1) = a :: l.take n := rfl
theorem take_za (l : List AV) : l.take 0 = [] := List.take_zero
theorem drop_sa (n : Nat) (a : AV) (l : List AV) : (a :: l).drop (n + 1) = l.drop n := rfl
theorem drop_za (l : List AV) : l.drop 0 = l := rfl
theorem len_c (a : AV) (l : List AV) : (a :: l).length = l.length + 1 := rfl
theorem len_n : ([] : List AV).length = 0 := rfl
theorem len_cv (a : Value) (l : List Value) : (a :: l).length = l.length + 1 := rfl
theorem len_nv : ([] : List Value).length = 0 := rfl
theorem len_co (a : Operand) (l : List Operand) : (a :: l).length = l.length + 1 := rfl
theorem len_no : ([] : List Operand).length = 0 := rfl
theorem app_n (l : List AV) : l ++ [] = l := List.append_nil l
theorem app_c (a : AV) (l m : List AV) : (a :: l) ++ m = a :: (l ++ m) := rfl
theorem n_app (l : List AV) : [] ++ l = l := rfl
/-- What code does, step by step. -/
theorem RP : type_of% (And.intro @vc_loud (And.intro @vc_dead (And.intro @r_bstr (And.intro @q_bstr (And.intro @vc_skip (And.intro @vc_ops (And.intro @vc_draw (And.intro @vc_seq (And.intro @vc_block (And.intro @vc_exit (And.intro @vc_ret (And.intro @vc_loop (And.intro @vc_cond (And.intro @vcOps_nil (And.intro @vcOps_if (And.intro @vcQ_nil (And.intro @vcQ_if (And.intro @r_mv (And.intro @r_pick (And.intro @r_not (And.intro @r_neg (And.intro @r_bin (And.intro @r_alloc (And.intro @r_box (And.intro @r_build (And.intro @r_lit (And.intro @r_load (And.intro @r_store (And.intro @r_nilck (And.intro @r_fa (And.intro @r_fld (And.intro @r_ia (And.intro @r_iaa (And.intro @r_idx (And.intro @r_ext (And.intro @r_mkf (And.intro @r_mks (And.intro @r_slc (And.intro @r_sstr (And.intro @r_conv (And.intro @r_lenS (And.intro @r_len (And.intro @r_app (And.intro @r_mn (And.intro @r_mx (And.intro @r_call (And.intro @r_callv (And.intro @q_mv (And.intro @q_pick (And.intro @q_not (And.intro @q_neg (And.intro @q_bin (And.intro @q_build (And.intro @q_load (And.intro @q_nilck (And.intro @q_fa (And.intro @q_fld (And.intro @q_ia (And.intro @q_iaa (And.intro @q_idx (And.intro @q_ext (And.intro @q_mkf (And.intro @q_slc (And.intro @q_sstr (And.intro @q_conv (And.intro @q_lenS (And.intro @q_len (And.intro @q_mn (And.intro @q_mx (And.intro @q_call (@q_callv))))))))))))))))))))))))))))))))))))))))))))))))))))))))))))))))))))))) := And.intro @vc_loud (And.intro @vc_dead (And.intro @r_bstr (And.intro @q_bstr (And.intro @vc_skip (And.intro @vc_ops (And.intro @vc_draw (And.intro @vc_seq (And.intro @vc_block (And.intro @vc_exit (And.intro @vc_ret (And.intro @vc_loop (And.intro @vc_cond (And.intro @vcOps_nil (And.intro @vcOps_if (And.intro @vcQ_nil (And.intro @vcQ_if (And.intro @r_mv (And.intro @r_pick (And.intro @r_not (And.intro @r_neg (And.intro @r_bin (And.intro @r_alloc (And.intro @r_box (And.intro @r_build (And.intro @r_lit (And.intro @r_load (And.intro @r_store (And.intro @r_nilck (And.intro @r_fa (And.intro @r_fld (And.intro @r_ia (And.intro @r_iaa (And.intro @r_idx (And.intro @r_ext (And.intro @r_mkf (And.intro @r_mks (And.intro @r_slc (And.intro @r_sstr (And.intro @r_conv (And.intro @r_lenS (And.intro @r_len (And.intro @r_app (And.intro @r_mn (And.intro @r_mx (And.intro @r_call (And.intro @r_callv (And.intro @q_mv (And.intro @q_pick (And.intro @q_not (And.intro @q_neg (And.intro @q_bin (And.intro @q_build (And.intro @q_load (And.intro @q_nilck (And.intro @q_fa (And.intro @q_fld (And.intro @q_ia (And.intro @q_iaa (And.intro @q_idx (And.intro @q_ext (And.intro @q_mkf (And.intro @q_slc (And.intro @q_sstr (And.intro @q_conv (And.intro @q_lenS (And.intro @q_len (And.intro @q_mn (And.intro @q_mx (And.intro @q_call (@q_callv))))))))))))))))))))))))))))))))))))))))))))))))))))))))))))))))))))))
/-- What stands behind the steps. -/
theorem RQ : type_of% (And.intro @take_s2 (And.intro @take_z2 (And.intro @all_no (And.intro @all_co (And.intro @undef_tuple (And.intro @st_nil (And.intro @st_rp (And.intro @st_fn (And.intro @cells_rp (And.intro @cells_fn (And.intro @or_false (And.intro @false_or (And.intro @true_or (And.intro @or_true (And.intro @cast_0 (And.intro @emp_hl (And.intro @hl_nx (And.intro @hl_m (And.intro @hl_alloc (And.intro @hl_upd (And.intro @hl_kill (And.intro @look_nil (And.intro @look_same (And.intro @look_else (And.intro @n_1 (And.intro @n_2 (And.intro @n_3 (And.intro @n_4 (And.intro @len_cb (And.intro @len_cl (And.intro @len_nl (And.intro @getD_zl (And.intro @set_zl (And.intro @cells_agg (And.intro @cells_v (And.intro @cells_own (And.intro @cells_ptr (And.intro @cells_ro (And.intro @st_agg (And.intro @st_own (And.intro @st_ptr (And.intro @st_ro (And.intro @st_int (And.intro @st_str (And.intro @st_bool (And.intro @splice_zero (And.intro @splice_nil (And.intro @splice_succ (And.intro @z_add (And.intro @Wk_nil (And.intro @Wk_any (And.intro @Wk_same (And.intro @dr_nil (And.intro @dr_one (And.intro @some_eq (And.intro @ev_tmp (And.intro @ev_const (And.intro @ev_func (And.intro @end_normal (And.intro @end_ret (And.intro @ret_one (And.intro @ret_two (And.intro @ret_three (And.intro @then_normal (And.intro @then_exit (And.intro @then_ret (And.intro @blk_normal (And.intro @blk_ret (And.intro @blk_exit (And.intro @setE_some (And.intro @setE_none (And.intro @true_and (And.intro @and_true (And.intro @vcIf_true (And.intro @vcIf_false (And.intro @vcIf_not (And.intro @vcQIf_true (And.intro @vcQIf_false (And.intro @vcQIf_not (And.intro @beq_true (And.intro @beq_false (And.intro @Bool.not_true (And.intro @Bool.not_false (And.intro @bif_v (And.intro @pack_true (And.intro @pack_false (And.intro @emp_nx (And.intro @Bool.and_true (And.intro @Bool.true_and (And.intro @Bool.and_false (And.intro @Bool.false_and (And.intro @Bool.or_true (And.intro @Bool.true_or (And.intro @Bool.or_false (And.intro @Bool.false_or (And.intro @not_false_eq_true (And.intro @not_true_eq_false (And.intro @and_self (And.intro @Nat.lt_add_one (And.intro @dec_true (And.intro @dec_false (And.intro @set_zero (And.intro @set_succ (And.intro @getD_zero (And.intro @getD_succ (And.intro @cnd_t (And.intro @cnd_f (And.intro @cndb_t (And.intro @cndb_f (And.intro @map_co (And.intro @map_no (And.intro @map_cv (And.intro @map_nv (And.intro @map_cl (And.intro @map_nl (And.intro @take_so (And.intro @take_zo (And.intro @drop_so (And.intro @drop_zo (And.intro @take_sa (And.intro @take_za (And.intro @drop_sa (And.intro @drop_za (And.intro @len_c (And.intro @len_n (And.intro @len_cv (And.intro @len_nv (And.intro @len_co (And.intro @len_no (And.intro @app_n (And.intro @app_c (@n_app)))))))))))))))))))))))))))))))))))))))))))))))))))))))))))))))))))))))))))))))))))))))))))))))))))))))))))))))))))))))))))))))))))) := And.intro @take_s2 (And.intro @take_z2 (And.intro @all_no (And.intro @all_co (And.intro @undef_tuple (And.intro @st_nil (And.intro @st_rp (And.intro @st_fn (And.intro @cells_rp (And.intro @cells_fn (And.intro @or_false (And.intro @false_or (And.intro @true_or (And.intro @or_true (And.intro @cast_0 (And.intro @emp_hl (And.intro @hl_nx (And.intro @hl_m (And.intro @hl_alloc (And.intro @hl_upd (And.intro @hl_kill (And.intro @look_nil (And.intro @look_same (And.intro @look_else (And.intro @n_1 (And.intro @n_2 (And.intro @n_3 (And.intro @n_4 (And.intro @len_cb (And.intro @len_cl (And.intro @len_nl (And.intro @getD_zl (And.intro @set_zl (And.intro @cells_agg (And.intro @cells_v (And.intro @cells_own (And.intro @cells_ptr (And.intro @cells_ro (And.intro @st_agg (And.intro @st_own (And.intro @st_ptr (And.intro @st_ro (And.intro @st_int (And.intro @st_str (And.intro @st_bool (And.intro @splice_zero (And.intro @splice_nil (And.intro @splice_succ (And.intro @z_add (And.intro @Wk_nil (And.intro @Wk_any (And.intro @Wk_same (And.intro @dr_nil (And.intro @dr_one (And.intro @some_eq (And.intro @ev_tmp (And.intro @ev_const (And.intro @ev_func (And.intro @end_normal (And.intro @end_ret (And.intro @ret_one (And.intro @ret_two (And.intro @ret_three (And.intro @then_normal (And.intro @then_exit (And.intro @then_ret (And.intro @blk_normal (And.intro @blk_ret (And.intro @blk_exit (And.intro @setE_some (And.intro @setE_none (And.intro @true_and (And.intro @and_true (And.intro @vcIf_true (And.intro @vcIf_false (And.intro @vcIf_not (And.intro @vcQIf_true (And.intro @vcQIf_false (And.intro @vcQIf_not (And.intro @beq_true (And.intro @beq_false (And.intro @Bool.not_true (And.intro @Bool.not_false (And.intro @bif_v (And.intro @pack_true (And.intro @pack_false (And.intro @emp_nx (And.intro @Bool.and_true (And.intro @Bool.true_and (And.intro @Bool.and_false (And.intro @Bool.false_and (And.intro @Bool.or_true (And.intro @Bool.true_or (And.intro @Bool.or_false (And.intro @Bool.false_or (And.intro @not_false_eq_true (And.intro @not_true_eq_false (And.intro @and_self (And.intro @Nat.lt_add_one (And.intro @dec_true (And.intro @dec_false (And.intro @set_zero (And.intro @set_succ (And.intro @getD_zero (And.intro @getD_succ (And.intro @cnd_t (And.intro @cnd_f (And.intro @cndb_t (And.intro @cndb_f (And.intro @map_co (And.intro @map_no (And.intro @map_cv (And.intro @map_nv (And.intro @map_cl (And.intro @map_nl (And.intro @take_so (And.intro @take_zo (And.intro @drop_so (And.intro @drop_zo (And.intro @take_sa (And.intro @take_za (And.intro @drop_sa (And.intro @drop_za (And.intro @len_c (And.intro @len_n (And.intro @len_cv (And.intro @len_nv (And.intro @len_co (And.intro @len_no (And.intro @app_n (And.intro @app_c (@n_app)))))))))))))))))))))))))))))))))))))))))))))))))))))))))))))))))))))))))))))))))))))))))))))))))))))))))))))))))))))))))))))))))))
end Go.Abs
