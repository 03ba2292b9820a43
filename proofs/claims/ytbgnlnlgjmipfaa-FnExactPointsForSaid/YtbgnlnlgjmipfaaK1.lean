/- The code of the functions, in the form of our laws; each is the program's own, by the kernel. Written by a program of ours. -/
import Derived.Test.YtbgnlnlgjmipfaaB0
import Derived.KernelRfl
namespace Go.Proofs.Ytbgnlnlgjmipfaa
open Go.Abs

/-- laws.szSecurityS -/
def C20 : CC :=
 (.seq (.ops [⟨some 4, none, .mv (.const (.int .i64 0))⟩])
 (.seq (.ops [⟨some 6, none, .mv (.tmp 1)⟩,
   ⟨some 7, none, .mv (.tmp 0)⟩,
   ⟨some 8, none, .len false (.tmp 7)⟩,
   ⟨some 9, none, .bin .sub 0 (.tmp 6) (.tmp 8)⟩,
   ⟨some 1, none, .mv (.tmp 9)⟩])
 (.seq (.seq (.ops [⟨some 10, none, .mv (.tmp 1)⟩,
    ⟨some 11, none, .bin .lss 0 (.tmp 10) (.const (.int .i64 0))⟩])
  (.cond (.tmp 11) (.seq (.ops [⟨some 4, none, .mv (.const (.int .i64 (-1)))⟩])
   .ret)
  .skip))
 (.seq (.seq (.ops [⟨some 5, none, .mv (.const (.int .i64 0))⟩])
  (.block 0 (.loop (.seq (.seq (.ops [⟨some 12, none, .mv (.tmp 5)⟩,
       ⟨some 13, none, .mv (.tmp 0)⟩,
       ⟨some 14, none, .len false (.tmp 13)⟩,
       ⟨some 15, none, .bin .lss 0 (.tmp 12) (.tmp 14)⟩])
     (.cond (.tmp 15) .skip
     (.exit 0)))
    (.seq (.block 1 (.seq (.ops [⟨some 18, none, .mv (.tmp 0)⟩,
        ⟨some 19, none, .mv (.tmp 5)⟩,
        ⟨some 20, none, .ia 3 (.tmp 18) (.tmp 19)⟩,
        ⟨some 21, none, .load true 3 (.tmp 20)⟩,
        ⟨some 22, none, .mv (.tmp 1)⟩,
        ⟨some 23, none, .call (.func 80) [(.tmp 21), (.tmp 22)]⟩,
        ⟨some 1, none, .mv (.tmp 23)⟩])
      (.seq (.ops [⟨some 24, none, .mv (.tmp 1)⟩,
        ⟨some 25, none, .bin .lss 0 (.tmp 24) (.const (.int .i64 0))⟩])
      (.cond (.tmp 25) (.seq (.ops [⟨some 4, none, .mv (.const (.int .i64 (-1)))⟩])
       .ret)
      .skip))))
    (.ops [⟨some 16, none, .mv (.tmp 5)⟩,
     ⟨some 17, none, .bin .add 0 (.tmp 16) (.const (.int .i64 1))⟩,
     ⟨some 5, none, .mv (.tmp 17)⟩]))))))
 (.seq (.ops [⟨some 26, none, .mv (.tmp 1)⟩,
   ⟨some 4, none, .mv (.tmp 26)⟩])
 .ret)))))
theorem C20_ok : Try.f20.body.bind (comp Try.prog) = some C20 := by kernel_rfl
theorem C20_res : compRs Try.prog Try.f20.results.toList = some [.tmp 4] := by kernel_rfl
theorem C20_nm : (Try.f20.name == "runtime.NumGoroutine") = false := by kernel_rfl
theorem C20_fn {a0 a1 : AV} {H : Heap} {Q : AV → Heap → Prop} (h : vc Try.prog C20 (vcEnd [.tmp 4] Q) H [a0, a1, .any, .any, .any, .any, .any, .any, .any, .any, .any, .any, .any, .any, .any, .any, .any, .any, .any, .any, .any, .any, .any, .any, .any, .any, .any]) : Runs Try.prog 20 [a0, a1] H Q :=
  @fn_go Try.prog mixed 20 Try.f20 C20 [.tmp 4] Try.func20 C20_ok C20_res C20_nm 27 Try.ntmps20 [a0, a1] [a0, a1, .any, .any, .any, .any, .any, .any, .any, .any, .any, .any, .any, .any, .any, .any, .any, .any, .any, .any, .any, .any, .any, .any, .any, .any, .any] H Q h 25 (by kernel_rfl) (by kernel_rfl)

/-- spec.AreSecurities -/
def C81 : CC :=
 (.seq (.ops [⟨some 2, none, .mv (.const (.bool false))⟩])
 (.seq (.seq (.ops [⟨some 3, none, .mv (.const (.int .i64 0))⟩])
  (.block 0 (.loop (.seq (.seq (.ops [⟨some 5, none, .mv (.tmp 3)⟩,
       ⟨some 6, none, .mv (.tmp 0)⟩,
       ⟨some 7, none, .len false (.tmp 6)⟩,
       ⟨some 8, none, .bin .lss 0 (.tmp 5) (.tmp 7)⟩])
     (.cond (.tmp 8) .skip
     (.exit 0)))
    (.seq (.block 1 (.seq (.ops [⟨some 11, none, .mv (.tmp 0)⟩,
        ⟨some 12, none, .mv (.tmp 3)⟩,
        ⟨some 13, none, .ia 3 (.tmp 11) (.tmp 12)⟩,
        ⟨some 14, none, .load true 3 (.tmp 13)⟩,
        ⟨some 4, none, .alloc [.string ⟨#[]⟩, .int .i64 0, .int .i64 0]⟩,
        ⟨none, none, .store 3 (.tmp 4) (.tmp 14)⟩])
      (.seq (.ops [⟨some 15, none, .fa 0 (.tmp 4)⟩,
        ⟨some 16, none, .load false 1 (.tmp 15)⟩,
        ⟨some 17, none, .call (.func 133) [(.tmp 16)]⟩,
        ⟨some 18, none, .not (.tmp 17)⟩,
        ⟨some 19, none, .mv (.tmp 18)⟩,
        ⟨some 20, some (19, false), .fa 1 (.tmp 4)⟩,
        ⟨some 21, some (19, false), .load false 1 (.tmp 20)⟩,
        ⟨some 22, some (19, false), .call (.func 86) [(.tmp 21), (.const (.int .i64 0)), (.const (.int .i64 2))]⟩,
        ⟨some 23, some (19, false), .not (.tmp 22)⟩,
        ⟨some 24, none, .pick (.tmp 19) (.const (.bool true)) (.tmp 23)⟩,
        ⟨some 25, none, .mv (.tmp 24)⟩,
        ⟨some 26, some (25, false), .fa 2 (.tmp 4)⟩,
        ⟨some 27, some (25, false), .load false 1 (.tmp 26)⟩,
        ⟨some 28, some (25, false), .call (.func 98) [(.tmp 27)]⟩,
        ⟨some 29, some (25, false), .not (.tmp 28)⟩,
        ⟨some 30, none, .pick (.tmp 25) (.const (.bool true)) (.tmp 29)⟩])
      (.cond (.tmp 30) (.seq (.ops [⟨some 2, none, .mv (.const (.bool false))⟩])
       .ret)
      .skip))))
    (.ops [⟨some 9, none, .mv (.tmp 3)⟩,
     ⟨some 10, none, .bin .add 0 (.tmp 9) (.const (.int .i64 1))⟩,
     ⟨some 3, none, .mv (.tmp 10)⟩]))))))
 (.seq (.ops [⟨some 31, none, .mv (.tmp 0)⟩,
   ⟨some 32, none, .len false (.tmp 31)⟩,
   ⟨some 33, none, .bin .leq 0 (.tmp 32) (.const (.int .i64 15))⟩,
   ⟨some 2, none, .mv (.tmp 33)⟩])
 .ret)))
theorem C81_ok : Try.f81.body.bind (comp Try.prog) = some C81 := by kernel_rfl
theorem C81_res : compRs Try.prog Try.f81.results.toList = some [.tmp 2] := by kernel_rfl
theorem C81_nm : (Try.f81.name == "runtime.NumGoroutine") = false := by kernel_rfl
theorem C81_fn {a0 : AV} {H : Heap} {Q : AV → Heap → Prop} (h : vc Try.prog C81 (vcEnd [.tmp 2] Q) H [a0, .any, .any, .any, .any, .any, .any, .any, .any, .any, .any, .any, .any, .any, .any, .any, .any, .any, .any, .any, .any, .any, .any, .any, .any, .any, .any, .any, .any, .any, .any, .any, .any, .any]) : Runs Try.prog 81 [a0] H Q :=
  @fn_go Try.prog mixed 81 Try.f81 C81 [.tmp 2] Try.func81 C81_ok C81_res C81_nm 34 Try.ntmps81 [a0] [a0, .any, .any, .any, .any, .any, .any, .any, .any, .any, .any, .any, .any, .any, .any, .any, .any, .any, .any, .any, .any, .any, .any, .any, .any, .any, .any, .any, .any, .any, .any, .any, .any, .any] H Q h 33 (by kernel_rfl) (by kernel_rfl)

/-- spec.TotalsByKind -/
def C21 : CC :=
 (.seq (.ops [⟨some 2, none, .mv (.const (.slice none 0 0))⟩,
   ⟨some 3, none, .mv (.const (.int .i64 0))⟩])
 (.seq (.seq (.ops [⟨some 7, none, .mv (.tmp 0)⟩,
    ⟨some 8, none, .call (.func 81) [(.tmp 7)]⟩,
    ⟨some 9, none, .not (.tmp 8)⟩])
  (.cond (.tmp 9) (.seq (.ops [⟨some 2, none, .mv (.const (.slice none 0 0))⟩,
     ⟨some 3, none, .mv (.const (.int .i64 1))⟩])
   .ret)
  .skip))
 (.seq (.ops [⟨some 10, none, .lit 1 [(.const (.int .i64 0)), (.const (.int .i64 0)), (.const (.int .i64 0))]⟩,
   ⟨some 4, none, .mv (.tmp 10)⟩])
 (.seq (.seq (.ops [⟨some 5, none, .mv (.const (.int .i64 0))⟩])
  (.block 0 (.loop (.seq (.seq (.ops [⟨some 11, none, .mv (.tmp 5)⟩,
       ⟨some 12, none, .mv (.tmp 0)⟩,
       ⟨some 13, none, .len false (.tmp 12)⟩,
       ⟨some 14, none, .bin .lss 0 (.tmp 11) (.tmp 13)⟩])
     (.cond (.tmp 14) .skip
     (.exit 0)))
    (.seq (.block 1 (.seq (.ops [⟨some 17, none, .mv (.tmp 0)⟩,
        ⟨some 18, none, .mv (.tmp 5)⟩,
        ⟨some 19, none, .ia 3 (.tmp 17) (.tmp 18)⟩,
        ⟨some 20, none, .fa 1 (.tmp 19)⟩,
        ⟨some 21, none, .load false 1 (.tmp 20)⟩,
        ⟨some 6, none, .mv (.tmp 21)⟩])
      (.draw 12 [⟨some 22, none, .mv (.tmp 4)⟩,
       ⟨some 23, none, .mv (.tmp 6)⟩,
       ⟨some 24, none, .mv (.tmp 4)⟩,
       ⟨some 25, none, .mv (.tmp 6)⟩,
       ⟨some 26, none, .ia 1 (.tmp 24) (.tmp 25)⟩,
       ⟨some 27, none, .load false 1 (.tmp 26)⟩,
       ⟨some 28, none, .mv (.tmp 0)⟩,
       ⟨some 29, none, .mv (.tmp 5)⟩,
       ⟨some 30, none, .ia 3 (.tmp 28) (.tmp 29)⟩,
       ⟨some 31, none, .fa 2 (.tmp 30)⟩,
       ⟨some 32, none, .load false 1 (.tmp 31)⟩,
       ⟨some 33, none, .bin .add 0 (.tmp 27) (.tmp 32)⟩,
       ⟨some 34, none, .ia 1 (.tmp 22) (.tmp 23)⟩,
       ⟨none, none, .store 1 (.tmp 34) (.tmp 33)⟩])))
    (.ops [⟨some 15, none, .mv (.tmp 5)⟩,
     ⟨some 16, none, .bin .add 0 (.tmp 15) (.const (.int .i64 1))⟩,
     ⟨some 5, none, .mv (.tmp 16)⟩]))))))
 (.seq (.ops [⟨some 35, none, .mv (.tmp 4)⟩,
   ⟨some 2, none, .mv (.tmp 35)⟩,
   ⟨some 3, none, .mv (.const (.int .i64 0))⟩])
 .ret)))))
theorem C21_ok : Try.f21.body.bind (comp Try.prog) = some C21 := by kernel_rfl
theorem C21_res : compRs Try.prog Try.f21.results.toList = some [.tmp 2, .tmp 3] := by kernel_rfl
theorem C21_nm : (Try.f21.name == "runtime.NumGoroutine") = false := by kernel_rfl
theorem C21_fn {a0 : AV} {H : Heap} {Q : AV → Heap → Prop} (h : vc Try.prog C21 (vcEnd [.tmp 2, .tmp 3] Q) H [a0, .any, .any, .any, .any, .any, .any, .any, .any, .any, .any, .any, .any, .any, .any, .any, .any, .any, .any, .any, .any, .any, .any, .any, .any, .any, .any, .any, .any, .any, .any, .any, .any, .any, .any, .any]) : Runs Try.prog 21 [a0] H Q :=
  @fn_go Try.prog mixed 21 Try.f21 C21 [.tmp 2, .tmp 3] Try.func21 C21_ok C21_res C21_nm 36 Try.ntmps21 [a0] [a0, .any, .any, .any, .any, .any, .any, .any, .any, .any, .any, .any, .any, .any, .any, .any, .any, .any, .any, .any, .any, .any, .any, .any, .any, .any, .any, .any, .any, .any, .any, .any, .any, .any, .any, .any] H Q h 35 (by kernel_rfl) (by kernel_rfl)

/-- laws.toSecurity -/
def C82 : CC :=
 (.seq (.ops [⟨some 1, none, .box (.tmp 0)⟩,
   ⟨some 2, none, .alloc [.string ⟨#[]⟩, .int .i64 0, .int .i64 0]⟩])
 (.seq (.ops [⟨some 3, none, .alloc [.string ⟨#[]⟩, .int .i64 0, .int .i64 0]⟩])
 (.seq (.ops [⟨some 4, none, .fa 0 (.tmp 1)⟩,
   ⟨some 5, none, .load false 1 (.tmp 4)⟩,
   ⟨some 6, none, .fa 0 (.tmp 3)⟩,
   ⟨none, none, .store 1 (.tmp 6) (.tmp 5)⟩])
 (.seq (.ops [⟨some 7, none, .fa 1 (.tmp 1)⟩,
   ⟨some 8, none, .load false 1 (.tmp 7)⟩,
   ⟨some 9, none, .fa 1 (.tmp 3)⟩,
   ⟨none, none, .store 1 (.tmp 9) (.tmp 8)⟩])
 (.seq (.ops [⟨some 10, none, .fa 2 (.tmp 1)⟩,
   ⟨some 11, none, .load false 1 (.tmp 10)⟩,
   ⟨some 12, none, .fa 2 (.tmp 3)⟩,
   ⟨none, none, .store 1 (.tmp 12) (.tmp 11)⟩])
 (.seq (.ops [⟨some 13, none, .load true 3 (.tmp 3)⟩,
   ⟨none, none, .store 3 (.tmp 2) (.tmp 13)⟩])
 .ret))))))
theorem C82_ok : Try.f82.body.bind (comp Try.prog) = some C82 := by kernel_rfl
theorem C82_res : compRs Try.prog Try.f82.results.toList = some [.cell true 3 2] := by kernel_rfl
theorem C82_nm : (Try.f82.name == "runtime.NumGoroutine") = false := by kernel_rfl
theorem C82_fn {a0 : AV} {H : Heap} {Q : AV → Heap → Prop} (h : vc Try.prog C82 (vcEnd [.cell true 3 2] Q) H [a0, .any, .any, .any, .any, .any, .any, .any, .any, .any, .any, .any, .any, .any]) : Runs Try.prog 82 [a0] H Q :=
  @fn_go Try.prog mixed 82 Try.f82 C82 [.cell true 3 2] Try.func82 C82_ok C82_res C82_nm 14 Try.ntmps82 [a0] [a0, .any, .any, .any, .any, .any, .any, .any, .any, .any, .any, .any, .any, .any] H Q h 13 (by kernel_rfl) (by kernel_rfl)

/-- laws.toSecurityS -/
def C22 : CC :=
 (.seq (.ops [⟨some 2, none, .mv (.const (.slice none 0 0))⟩])
 (.seq (.ops [⟨some 5, none, .mv (.tmp 0)⟩,
   ⟨some 6, none, .len false (.tmp 5)⟩,
   ⟨some 7, none, .mks [.string ⟨#[]⟩, .int .i64 0, .int .i64 0] 32 (.tmp 6)⟩,
   ⟨some 3, none, .mv (.tmp 7)⟩])
 (.seq (.seq (.ops [⟨some 4, none, .mv (.const (.int .i64 0))⟩])
  (.block 0 (.loop (.seq (.seq (.ops [⟨some 8, none, .mv (.tmp 4)⟩,
       ⟨some 9, none, .mv (.tmp 0)⟩,
       ⟨some 10, none, .len false (.tmp 9)⟩,
       ⟨some 11, none, .bin .lss 0 (.tmp 8) (.tmp 10)⟩])
     (.cond (.tmp 11) .skip
     (.exit 0)))
    (.seq (.block 1 (.ops [⟨some 14, none, .mv (.tmp 3)⟩,
       ⟨some 15, none, .mv (.tmp 4)⟩,
       ⟨some 16, none, .mv (.tmp 0)⟩,
       ⟨some 17, none, .mv (.tmp 4)⟩,
       ⟨some 18, none, .ia 3 (.tmp 16) (.tmp 17)⟩,
       ⟨some 19, none, .load true 3 (.tmp 18)⟩,
       ⟨some 20, none, .call (.func 82) [(.tmp 19)]⟩,
       ⟨some 21, none, .ia 3 (.tmp 14) (.tmp 15)⟩,
       ⟨none, none, .store 3 (.tmp 21) (.tmp 20)⟩]))
    (.ops [⟨some 12, none, .mv (.tmp 4)⟩,
     ⟨some 13, none, .bin .add 0 (.tmp 12) (.const (.int .i64 1))⟩,
     ⟨some 4, none, .mv (.tmp 13)⟩]))))))
 (.seq (.ops [⟨some 22, none, .mv (.tmp 3)⟩,
   ⟨some 2, none, .mv (.tmp 22)⟩])
 .ret))))
theorem C22_ok : Try.f22.body.bind (comp Try.prog) = some C22 := by kernel_rfl
theorem C22_res : compRs Try.prog Try.f22.results.toList = some [.tmp 2] := by kernel_rfl
theorem C22_nm : (Try.f22.name == "runtime.NumGoroutine") = false := by kernel_rfl
theorem C22_fn {a0 : AV} {H : Heap} {Q : AV → Heap → Prop} (h : vc Try.prog C22 (vcEnd [.tmp 2] Q) H [a0, .any, .any, .any, .any, .any, .any, .any, .any, .any, .any, .any, .any, .any, .any, .any, .any, .any, .any, .any, .any, .any, .any]) : Runs Try.prog 22 [a0] H Q :=
  @fn_go Try.prog mixed 22 Try.f22 C22 [.tmp 2] Try.func22 C22_ok C22_res C22_nm 23 Try.ntmps22 [a0] [a0, .any, .any, .any, .any, .any, .any, .any, .any, .any, .any, .any, .any, .any, .any, .any, .any, .any, .any, .any, .any, .any, .any] H Q h 22 (by kernel_rfl) (by kernel_rfl)

/-- slices.IndexFunc[[]impl.Security,impl.Security] -/
def C168 : CC :=
 (.seq (.ops [⟨some 4, none, .mv (.const (.int .i64 0))⟩])
 (.seq (.seq (.ops [⟨some 6, none, .mv (.tmp 0)⟩,
    ⟨some 7, none, .len false (.tmp 6)⟩,
    ⟨some 8, none, .mv (.const (.int .i64 0))⟩])
  (.block 0 (.loop (.seq (.ops [⟨some 9, none, .bin .lss 0 (.tmp 8) (.tmp 7)⟩])
    (.seq (.cond (.tmp 9) .skip
     (.exit 0))
    (.seq (.block 1 (.seq (.ops [⟨some 10, none, .mv (.tmp 8)⟩,
        ⟨some 5, none, .mv (.tmp 10)⟩])
      (.seq (.ops [⟨some 11, none, .mv (.tmp 1)⟩,
        ⟨some 12, none, .mv (.tmp 0)⟩,
        ⟨some 13, none, .mv (.tmp 5)⟩,
        ⟨some 14, none, .ia 3 (.tmp 12) (.tmp 13)⟩,
        ⟨some 15, none, .load true 3 (.tmp 14)⟩,
        ⟨some 16, none, .call (.tmp 11) [(.tmp 15)]⟩])
      (.cond (.tmp 16) (.seq (.ops [⟨some 17, none, .mv (.tmp 5)⟩,
         ⟨some 4, none, .mv (.tmp 17)⟩])
       .ret)
      .skip))))
    (.ops [⟨some 18, none, .bin .add 0 (.tmp 8) (.const (.int .i64 1))⟩,
     ⟨some 8, none, .mv (.tmp 18)⟩])))))))
 (.seq (.ops [⟨some 4, none, .mv (.const (.int .i64 (-1)))⟩])
 .ret)))
theorem C168_ok : Try.f168.body.bind (comp Try.prog) = some C168 := by kernel_rfl
theorem C168_res : compRs Try.prog Try.f168.results.toList = some [.tmp 4] := by kernel_rfl
theorem C168_nm : (Try.f168.name == "runtime.NumGoroutine") = false := by kernel_rfl
theorem C168_fn {a0 a1 : AV} {H : Heap} {Q : AV → Heap → Prop} (h : vc Try.prog C168 (vcEnd [.tmp 4] Q) H [a0, a1, .any, .any, .any, .any, .any, .any, .any, .any, .any, .any, .any, .any, .any, .any, .any, .any, .any]) : Runs Try.prog 168 [a0, a1] H Q :=
  @fn_go Try.prog mixed 168 Try.f168 C168 [.tmp 4] Try.func168 C168_ok C168_res C168_nm 19 Try.ntmps168 [a0, a1] [a0, a1, .any, .any, .any, .any, .any, .any, .any, .any, .any, .any, .any, .any, .any, .any, .any, .any, .any] H Q h 17 (by kernel_rfl) (by kernel_rfl)

/-- slices.ContainsFunc[[]impl.Security,impl.Security] -/
def C157 : CC :=
 (.seq (.ops [⟨some 4, none, .mv (.const (.bool false))⟩])
 (.seq (.ops [⟨some 5, none, .mv (.tmp 0)⟩,
   ⟨some 6, none, .mv (.tmp 1)⟩,
   ⟨some 7, none, .call (.func 168) [(.tmp 5), (.tmp 6)]⟩,
   ⟨some 8, none, .bin .geq 0 (.tmp 7) (.const (.int .i64 0))⟩,
   ⟨some 4, none, .mv (.tmp 8)⟩])
 .ret))
theorem C157_ok : Try.f157.body.bind (comp Try.prog) = some C157 := by kernel_rfl
theorem C157_res : compRs Try.prog Try.f157.results.toList = some [.tmp 4] := by kernel_rfl
theorem C157_nm : (Try.f157.name == "runtime.NumGoroutine") = false := by kernel_rfl
theorem C157_fn {a0 a1 : AV} {H : Heap} {Q : AV → Heap → Prop} (h : vc Try.prog C157 (vcEnd [.tmp 4] Q) H [a0, a1, .any, .any, .any, .any, .any, .any, .any]) : Runs Try.prog 157 [a0, a1] H Q :=
  @fn_go Try.prog mixed 157 Try.f157 C157 [.tmp 4] Try.func157 C157_ok C157_res C157_nm 9 Try.ntmps157 [a0, a1] [a0, a1, .any, .any, .any, .any, .any, .any, .any] H Q h 7 (by kernel_rfl) (by kernel_rfl)

/-- impl.all[impl.Security]$1 -/
def C158 : CC :=
 (.seq (.ops [⟨some 2, none, .box (.tmp 0)⟩,
   ⟨some 3, none, .mv (.const (.bool false))⟩])
 (.seq (.ops [⟨some 4, none, .load false 1 (.tmp 1)⟩,
   ⟨some 5, none, .load true 3 (.tmp 2)⟩,
   ⟨some 6, none, .call (.tmp 4) [(.tmp 5)]⟩,
   ⟨some 7, none, .not (.tmp 6)⟩,
   ⟨some 3, none, .mv (.tmp 7)⟩])
 .ret))
theorem C158_ok : Try.f158.body.bind (comp Try.prog) = some C158 := by kernel_rfl
theorem C158_res : compRs Try.prog Try.f158.results.toList = some [.tmp 3] := by kernel_rfl
theorem C158_nm : (Try.f158.name == "runtime.NumGoroutine") = false := by kernel_rfl
theorem C158_fn {a0 a1 : AV} {H : Heap} {Q : AV → Heap → Prop} (h : vc Try.prog C158 (vcEnd [.tmp 3] Q) H [a0, a1, .any, .any, .any, .any, .any, .any]) : Runs Try.prog 158 [a0, a1] H Q :=
  @fn_go Try.prog mixed 158 Try.f158 C158 [.tmp 3] Try.func158 C158_ok C158_res C158_nm 8 Try.ntmps158 [a0, a1] [a0, a1, .any, .any, .any, .any, .any, .any] H Q h 6 (by kernel_rfl) (by kernel_rfl)

/-- impl.all[impl.Security] -/
def C137 : CC :=
 (.seq (.ops [⟨some 3, none, .box (.tmp 1)⟩,
   ⟨some 4, none, .mv (.const (.bool false))⟩])
 (.seq (.ops [⟨some 5, none, .mv (.tmp 0)⟩,
   ⟨some 6, none, .mkf 158 [(.tmp 3)]⟩,
   ⟨some 7, none, .call (.func 157) [(.tmp 5), (.tmp 6)]⟩,
   ⟨some 8, none, .not (.tmp 7)⟩,
   ⟨some 4, none, .mv (.tmp 8)⟩])
 .ret))
theorem C137_ok : Try.f137.body.bind (comp Try.prog) = some C137 := by kernel_rfl
theorem C137_res : compRs Try.prog Try.f137.results.toList = some [.tmp 4] := by kernel_rfl
theorem C137_nm : (Try.f137.name == "runtime.NumGoroutine") = false := by kernel_rfl
theorem C137_fn {a0 a1 : AV} {H : Heap} {Q : AV → Heap → Prop} (h : vc Try.prog C137 (vcEnd [.tmp 4] Q) H [a0, a1, .any, .any, .any, .any, .any, .any, .any]) : Runs Try.prog 137 [a0, a1] H Q :=
  @fn_go Try.prog mixed 137 Try.f137 C137 [.tmp 4] Try.func137 C137_ok C137_res C137_nm 9 Try.ntmps137 [a0, a1] [a0, a1, .any, .any, .any, .any, .any, .any, .any] H Q h 7 (by kernel_rfl) (by kernel_rfl)

/-- impl.AreSecurities$1 -/
def C138 : CC :=
 (.seq (.ops [⟨some 1, none, .box (.tmp 0)⟩,
   ⟨some 2, none, .mv (.const (.bool false))⟩])
 (.seq (.ops [⟨some 3, none, .fa 0 (.tmp 1)⟩,
   ⟨some 4, none, .load false 1 (.tmp 3)⟩,
   ⟨some 5, none, .call (.func 139) [(.tmp 4)]⟩,
   ⟨some 6, none, .mv (.tmp 5)⟩,
   ⟨some 7, some (6, true), .fa 1 (.tmp 1)⟩,
   ⟨some 8, some (6, true), .load false 1 (.tmp 7)⟩,
   ⟨some 9, some (6, true), .call (.func 87) [(.tmp 8), (.const (.int .i64 0)), (.const (.int .i64 2))]⟩,
   ⟨some 10, none, .pick (.tmp 6) (.tmp 9) (.const (.bool false))⟩,
   ⟨some 11, none, .mv (.tmp 10)⟩,
   ⟨some 12, some (11, true), .fa 2 (.tmp 1)⟩,
   ⟨some 13, some (11, true), .load false 1 (.tmp 12)⟩,
   ⟨some 14, some (11, true), .call (.func 100) [(.tmp 13)]⟩,
   ⟨some 15, none, .pick (.tmp 11) (.tmp 14) (.const (.bool false))⟩,
   ⟨some 2, none, .mv (.tmp 15)⟩])
 .ret))
theorem C138_ok : Try.f138.body.bind (comp Try.prog) = some C138 := by kernel_rfl
theorem C138_res : compRs Try.prog Try.f138.results.toList = some [.tmp 2] := by kernel_rfl
theorem C138_nm : (Try.f138.name == "runtime.NumGoroutine") = false := by kernel_rfl
theorem C138_fn {a0 : AV} {H : Heap} {Q : AV → Heap → Prop} (h : vc Try.prog C138 (vcEnd [.tmp 2] Q) H [a0, .any, .any, .any, .any, .any, .any, .any, .any, .any, .any, .any, .any, .any, .any, .any]) : Runs Try.prog 138 [a0] H Q :=
  @fn_go Try.prog mixed 138 Try.f138 C138 [.tmp 2] Try.func138 C138_ok C138_res C138_nm 16 Try.ntmps138 [a0] [a0, .any, .any, .any, .any, .any, .any, .any, .any, .any, .any, .any, .any, .any, .any, .any] H Q h 15 (by kernel_rfl) (by kernel_rfl)

/-- impl.AreSecurities -/
def C83 : CC :=
 (.seq (.ops [⟨some 2, none, .mv (.const (.bool false))⟩])
 (.seq (.ops [⟨some 3, none, .mv (.tmp 0)⟩,
   ⟨some 4, none, .len false (.tmp 3)⟩,
   ⟨some 5, none, .bin .leq 0 (.tmp 4) (.const (.int .i64 15))⟩,
   ⟨some 6, none, .mv (.tmp 5)⟩,
   ⟨some 7, some (6, true), .mv (.tmp 0)⟩,
   ⟨some 8, some (6, true), .call (.func 137) [(.tmp 7), (.func 138)]⟩,
   ⟨some 9, none, .pick (.tmp 6) (.tmp 8) (.const (.bool false))⟩,
   ⟨some 2, none, .mv (.tmp 9)⟩])
 .ret))
theorem C83_ok : Try.f83.body.bind (comp Try.prog) = some C83 := by kernel_rfl
theorem C83_res : compRs Try.prog Try.f83.results.toList = some [.tmp 2] := by kernel_rfl
theorem C83_nm : (Try.f83.name == "runtime.NumGoroutine") = false := by kernel_rfl
theorem C83_fn {a0 : AV} {H : Heap} {Q : AV → Heap → Prop} (h : vc Try.prog C83 (vcEnd [.tmp 2] Q) H [a0, .any, .any, .any, .any, .any, .any, .any, .any, .any]) : Runs Try.prog 83 [a0] H Q :=
  @fn_go Try.prog mixed 83 Try.f83 C83 [.tmp 2] Try.func83 C83_ok C83_res C83_nm 10 Try.ntmps83 [a0] [a0, .any, .any, .any, .any, .any, .any, .any, .any, .any] H Q h 9 (by kernel_rfl) (by kernel_rfl)

/-- impl.TotalsByKind -/
def C23 : CC :=
 (.seq (.ops [⟨some 2, none, .mv (.const (.slice none 0 0))⟩,
   ⟨some 3, none, .mv (.const (.int .i64 0))⟩])
 (.seq (.seq (.ops [⟨some 7, none, .mv (.tmp 0)⟩,
    ⟨some 8, none, .call (.func 83) [(.tmp 7)]⟩,
    ⟨some 9, none, .not (.tmp 8)⟩])
  (.cond (.tmp 9) (.seq (.ops [⟨some 2, none, .mv (.const (.slice none 0 0))⟩,
     ⟨some 3, none, .mv (.const (.int .i64 1))⟩])
   .ret)
  .skip))
 (.seq (.ops [⟨some 10, none, .mks [.int .i64 0] 8 (.const (.int .i64 3))⟩,
   ⟨some 4, none, .mv (.tmp 10)⟩])
 (.seq (.seq (.ops [⟨some 11, none, .mv (.tmp 0)⟩,
    ⟨some 12, none, .len false (.tmp 11)⟩,
    ⟨some 13, none, .mv (.const (.int .i64 0))⟩])
  (.block 0 (.loop (.seq (.ops [⟨some 14, none, .bin .lss 0 (.tmp 13) (.tmp 12)⟩])
    (.seq (.cond (.tmp 14) .skip
     (.exit 0))
    (.seq (.block 1 (.seq (.ops [⟨some 15, none, .ia 3 (.tmp 11) (.tmp 13)⟩,
        ⟨some 16, none, .load true 3 (.tmp 15)⟩,
        ⟨some 6, none, .alloc [.string ⟨#[]⟩, .int .i64 0, .int .i64 0]⟩,
        ⟨none, none, .store 3 (.tmp 6) (.tmp 16)⟩])
      (.draw 8 [⟨some 17, none, .mv (.tmp 4)⟩,
       ⟨some 18, none, .fa 1 (.tmp 6)⟩,
       ⟨some 19, none, .load false 1 (.tmp 18)⟩,
       ⟨some 20, none, .ia 1 (.tmp 17) (.tmp 19)⟩,
       ⟨some 21, none, .load false 1 (.tmp 20)⟩,
       ⟨some 22, none, .fa 2 (.tmp 6)⟩,
       ⟨some 23, none, .load false 1 (.tmp 22)⟩,
       ⟨some 24, none, .bin .add 0 (.tmp 21) (.tmp 23)⟩,
       ⟨some 25, none, .ia 1 (.tmp 17) (.tmp 19)⟩,
       ⟨none, none, .store 1 (.tmp 25) (.tmp 24)⟩])))
    (.ops [⟨some 26, none, .bin .add 0 (.tmp 13) (.const (.int .i64 1))⟩,
     ⟨some 13, none, .mv (.tmp 26)⟩])))))))
 (.seq (.ops [⟨some 27, none, .mv (.tmp 4)⟩,
   ⟨some 2, none, .mv (.tmp 27)⟩,
   ⟨some 3, none, .mv (.const (.int .i64 0))⟩])
 .ret)))))
theorem C23_ok : Try.f23.body.bind (comp Try.prog) = some C23 := by kernel_rfl
theorem C23_res : compRs Try.prog Try.f23.results.toList = some [.tmp 2, .tmp 3] := by kernel_rfl
theorem C23_nm : (Try.f23.name == "runtime.NumGoroutine") = false := by kernel_rfl
theorem C23_fn {a0 : AV} {H : Heap} {Q : AV → Heap → Prop} (h : vc Try.prog C23 (vcEnd [.tmp 2, .tmp 3] Q) H [a0, .any, .any, .any, .any, .any, .any, .any, .any, .any, .any, .any, .any, .any, .any, .any, .any, .any, .any, .any, .any, .any, .any, .any, .any, .any, .any, .any]) : Runs Try.prog 23 [a0] H Q :=
  @fn_go Try.prog mixed 23 Try.f23 C23 [.tmp 2, .tmp 3] Try.func23 C23_ok C23_res C23_nm 28 Try.ntmps23 [a0] [a0, .any, .any, .any, .any, .any, .any, .any, .any, .any, .any, .any, .any, .any, .any, .any, .any, .any, .any, .any, .any, .any, .any, .any, .any, .any, .any, .any] H Q h 27 (by kernel_rfl) (by kernel_rfl)

/-- laws.eqInt64S -/
def C24 : CC :=
 (.seq (.ops [⟨some 4, none, .mv (.const (.bool false))⟩])
 (.seq (.seq (.ops [⟨some 6, none, .mv (.tmp 0)⟩,
    ⟨some 7, none, .len false (.tmp 6)⟩,
    ⟨some 8, none, .mv (.tmp 1)⟩,
    ⟨some 9, none, .len false (.tmp 8)⟩,
    ⟨some 10, none, .bin .neq 0 (.tmp 7) (.tmp 9)⟩])
  (.cond (.tmp 10) (.seq (.ops [⟨some 4, none, .mv (.const (.bool false))⟩])
   .ret)
  .skip))
 (.seq (.seq (.ops [⟨some 5, none, .mv (.const (.int .i64 0))⟩])
  (.block 0 (.loop (.seq (.seq (.ops [⟨some 11, none, .mv (.tmp 5)⟩,
       ⟨some 12, none, .mv (.tmp 0)⟩,
       ⟨some 13, none, .len false (.tmp 12)⟩,
       ⟨some 14, none, .bin .lss 0 (.tmp 11) (.tmp 13)⟩])
     (.cond (.tmp 14) .skip
     (.exit 0)))
    (.seq (.block 1 (.seq (.draw 9 [⟨some 17, none, .mv (.tmp 0)⟩,
        ⟨some 18, none, .mv (.tmp 5)⟩,
        ⟨some 19, none, .ia 1 (.tmp 17) (.tmp 18)⟩,
        ⟨some 20, none, .load false 1 (.tmp 19)⟩,
        ⟨some 21, none, .mv (.tmp 1)⟩,
        ⟨some 22, none, .mv (.tmp 5)⟩,
        ⟨some 23, none, .ia 1 (.tmp 21) (.tmp 22)⟩,
        ⟨some 24, none, .load false 1 (.tmp 23)⟩,
        ⟨some 25, none, .bin .neq 0 (.tmp 20) (.tmp 24)⟩])
      (.cond (.tmp 25) (.seq (.ops [⟨some 4, none, .mv (.const (.bool false))⟩])
       .ret)
      .skip)))
    (.ops [⟨some 15, none, .mv (.tmp 5)⟩,
     ⟨some 16, none, .bin .add 0 (.tmp 15) (.const (.int .i64 1))⟩,
     ⟨some 5, none, .mv (.tmp 16)⟩]))))))
 (.seq (.ops [⟨some 4, none, .mv (.const (.bool true))⟩])
 .ret))))
theorem C24_ok : Try.f24.body.bind (comp Try.prog) = some C24 := by kernel_rfl
theorem C24_res : compRs Try.prog Try.f24.results.toList = some [.tmp 4] := by kernel_rfl
theorem C24_nm : (Try.f24.name == "runtime.NumGoroutine") = false := by kernel_rfl
theorem C24_fn {a0 a1 : AV} {H : Heap} {Q : AV → Heap → Prop} (h : vc Try.prog C24 (vcEnd [.tmp 4] Q) H [a0, a1, .any, .any, .any, .any, .any, .any, .any, .any, .any, .any, .any, .any, .any, .any, .any, .any, .any, .any, .any, .any, .any, .any, .any, .any]) : Runs Try.prog 24 [a0, a1] H Q :=
  @fn_go Try.prog mixed 24 Try.f24 C24 [.tmp 4] Try.func24 C24_ok C24_res C24_nm 26 Try.ntmps24 [a0, a1] [a0, a1, .any, .any, .any, .any, .any, .any, .any, .any, .any, .any, .any, .any, .any, .any, .any, .any, .any, .any, .any, .any, .any, .any, .any, .any] H Q h 24 (by kernel_rfl) (by kernel_rfl)

/-- laws.eqSecurity -/
def C84 : CC :=
 (.seq (.ops [⟨some 2, none, .box (.tmp 0)⟩,
   ⟨some 3, none, .box (.tmp 1)⟩,
   ⟨some 4, none, .mv (.const (.bool false))⟩])
 (.seq (.seq (.ops [⟨some 5, none, .fa 0 (.tmp 2)⟩,
    ⟨some 6, none, .load false 1 (.tmp 5)⟩,
    ⟨some 7, none, .fa 0 (.tmp 3)⟩,
    ⟨some 8, none, .load false 1 (.tmp 7)⟩,
    ⟨some 9, none, .bin .neq 0 (.tmp 6) (.tmp 8)⟩])
  (.cond (.tmp 9) (.seq (.ops [⟨some 4, none, .mv (.const (.bool false))⟩])
   .ret)
  .skip))
 (.seq (.seq (.ops [⟨some 10, none, .fa 1 (.tmp 2)⟩,
    ⟨some 11, none, .load false 1 (.tmp 10)⟩,
    ⟨some 12, none, .fa 1 (.tmp 3)⟩,
    ⟨some 13, none, .load false 1 (.tmp 12)⟩,
    ⟨some 14, none, .bin .neq 0 (.tmp 11) (.tmp 13)⟩])
  (.cond (.tmp 14) (.seq (.ops [⟨some 4, none, .mv (.const (.bool false))⟩])
   .ret)
  .skip))
 (.seq (.seq (.ops [⟨some 15, none, .fa 2 (.tmp 2)⟩,
    ⟨some 16, none, .load false 1 (.tmp 15)⟩,
    ⟨some 17, none, .fa 2 (.tmp 3)⟩,
    ⟨some 18, none, .load false 1 (.tmp 17)⟩,
    ⟨some 19, none, .bin .neq 0 (.tmp 16) (.tmp 18)⟩])
  (.cond (.tmp 19) (.seq (.ops [⟨some 4, none, .mv (.const (.bool false))⟩])
   .ret)
  .skip))
 (.seq (.ops [⟨some 4, none, .mv (.const (.bool true))⟩])
 .ret)))))
theorem C84_ok : Try.f84.body.bind (comp Try.prog) = some C84 := by kernel_rfl
theorem C84_res : compRs Try.prog Try.f84.results.toList = some [.tmp 4] := by kernel_rfl
theorem C84_nm : (Try.f84.name == "runtime.NumGoroutine") = false := by kernel_rfl
theorem C84_fn {a0 a1 : AV} {H : Heap} {Q : AV → Heap → Prop} (h : vc Try.prog C84 (vcEnd [.tmp 4] Q) H [a0, a1, .any, .any, .any, .any, .any, .any, .any, .any, .any, .any, .any, .any, .any, .any, .any, .any, .any, .any]) : Runs Try.prog 84 [a0, a1] H Q :=
  @fn_go Try.prog mixed 84 Try.f84 C84 [.tmp 4] Try.func84 C84_ok C84_res C84_nm 20 Try.ntmps84 [a0, a1] [a0, a1, .any, .any, .any, .any, .any, .any, .any, .any, .any, .any, .any, .any, .any, .any, .any, .any, .any, .any] H Q h 18 (by kernel_rfl) (by kernel_rfl)

/-- laws.eqSecurityS -/
def C25 : CC :=
 (.seq (.ops [⟨some 4, none, .mv (.const (.bool false))⟩])
 (.seq (.seq (.ops [⟨some 6, none, .mv (.tmp 0)⟩,
    ⟨some 7, none, .len false (.tmp 6)⟩,
    ⟨some 8, none, .mv (.tmp 1)⟩,
    ⟨some 9, none, .len false (.tmp 8)⟩,
    ⟨some 10, none, .bin .neq 0 (.tmp 7) (.tmp 9)⟩])
  (.cond (.tmp 10) (.seq (.ops [⟨some 4, none, .mv (.const (.bool false))⟩])
   .ret)
  .skip))
 (.seq (.seq (.ops [⟨some 5, none, .mv (.const (.int .i64 0))⟩])
  (.block 0 (.loop (.seq (.seq (.ops [⟨some 11, none, .mv (.tmp 5)⟩,
       ⟨some 12, none, .mv (.tmp 0)⟩,
       ⟨some 13, none, .len false (.tmp 12)⟩,
       ⟨some 14, none, .bin .lss 0 (.tmp 11) (.tmp 13)⟩])
     (.cond (.tmp 14) .skip
     (.exit 0)))
    (.seq (.block 1 (.seq (.draw 10 [⟨some 17, none, .mv (.tmp 0)⟩,
        ⟨some 18, none, .mv (.tmp 5)⟩,
        ⟨some 19, none, .ia 3 (.tmp 17) (.tmp 18)⟩,
        ⟨some 20, none, .load true 3 (.tmp 19)⟩,
        ⟨some 21, none, .mv (.tmp 1)⟩,
        ⟨some 22, none, .mv (.tmp 5)⟩,
        ⟨some 23, none, .ia 3 (.tmp 21) (.tmp 22)⟩,
        ⟨some 24, none, .load true 3 (.tmp 23)⟩,
        ⟨some 25, none, .call (.func 84) [(.tmp 20), (.tmp 24)]⟩,
        ⟨some 26, none, .not (.tmp 25)⟩])
      (.cond (.tmp 26) (.seq (.ops [⟨some 4, none, .mv (.const (.bool false))⟩])
       .ret)
      .skip)))
    (.ops [⟨some 15, none, .mv (.tmp 5)⟩,
     ⟨some 16, none, .bin .add 0 (.tmp 15) (.const (.int .i64 1))⟩,
     ⟨some 5, none, .mv (.tmp 16)⟩]))))))
 (.seq (.ops [⟨some 4, none, .mv (.const (.bool true))⟩])
 .ret))))
theorem C25_ok : Try.f25.body.bind (comp Try.prog) = some C25 := by kernel_rfl
theorem C25_res : compRs Try.prog Try.f25.results.toList = some [.tmp 4] := by kernel_rfl
theorem C25_nm : (Try.f25.name == "runtime.NumGoroutine") = false := by kernel_rfl
theorem C25_fn {a0 a1 : AV} {H : Heap} {Q : AV → Heap → Prop} (h : vc Try.prog C25 (vcEnd [.tmp 4] Q) H [a0, a1, .any, .any, .any, .any, .any, .any, .any, .any, .any, .any, .any, .any, .any, .any, .any, .any, .any, .any, .any, .any, .any, .any, .any, .any, .any]) : Runs Try.prog 25 [a0, a1] H Q :=
  @fn_go Try.prog mixed 25 Try.f25 C25 [.tmp 4] Try.func25 C25_ok C25_res C25_nm 27 Try.ntmps25 [a0, a1] [a0, a1, .any, .any, .any, .any, .any, .any, .any, .any, .any, .any, .any, .any, .any, .any, .any, .any, .any, .any, .any, .any, .any, .any, .any, .any, .any] H Q h 25 (by kernel_rfl) (by kernel_rfl)

/-- laws.markText -/
def C85 : CC :=
 (.seq (.ops [⟨some 2, none, .mv (.const (.string ⟨#[]⟩))⟩])
 (.seq (.seq (.ops [⟨some 4, none, .mv (.tmp 0)⟩,
    ⟨some 5, none, .bin .leq 0 (.tmp 4) (.const (.int .i64 0))⟩])
  (.cond (.tmp 5) (.seq (.ops [⟨some 2, none, .mv (.const (.string ⟨#[109, 48]⟩))⟩])
   .ret)
  .skip))
 (.seq (.ops [⟨some 3, none, .mv (.const (.string ⟨#[]⟩))⟩])
 (.seq (.block 0 (.loop (.seq (.seq (.ops [⟨some 6, none, .mv (.tmp 0)⟩,
       ⟨some 7, none, .bin .gtr 0 (.tmp 6) (.const (.int .i64 0))⟩])
     (.cond (.tmp 7) .skip
     (.exit 0)))
    (.block 1 (.seq (.ops [⟨some 8, none, .mv (.tmp 0)⟩,
       ⟨some 9, none, .bin .rem 0 (.tmp 8) (.const (.int .i64 10))⟩,
       ⟨some 10, none, .bin .add 0 (.const (.int .i64 48)) (.tmp 9)⟩,
       ⟨some 11, none, .conv .u8 (.tmp 10)⟩,
       ⟨some 12, none, .lit 1 [(.tmp 11)]⟩,
       ⟨some 13, none, .bstr (.tmp 12)⟩,
       ⟨some 14, none, .mv (.tmp 3)⟩,
       ⟨some 15, none, .bin .add 0 (.tmp 13) (.tmp 14)⟩,
       ⟨some 3, none, .mv (.tmp 15)⟩])
     (.ops [⟨some 16, none, .mv (.tmp 0)⟩,
      ⟨some 17, none, .bin .quo 0 (.tmp 16) (.const (.int .i64 10))⟩,
      ⟨some 0, none, .mv (.tmp 17)⟩]))))))
 (.seq (.ops [⟨some 18, none, .mv (.tmp 3)⟩,
   ⟨some 19, none, .bin .add 0 (.const (.string ⟨#[109]⟩)) (.tmp 18)⟩,
   ⟨some 2, none, .mv (.tmp 19)⟩])
 .ret)))))
theorem C85_ok : Try.f85.body.bind (comp Try.prog) = some C85 := by kernel_rfl
theorem C85_res : compRs Try.prog Try.f85.results.toList = some [.tmp 2] := by kernel_rfl
theorem C85_nm : (Try.f85.name == "runtime.NumGoroutine") = false := by kernel_rfl
theorem C85_fn {a0 : AV} {H : Heap} {Q : AV → Heap → Prop} (h : vc Try.prog C85 (vcEnd [.tmp 2] Q) H [a0, .any, .any, .any, .any, .any, .any, .any, .any, .any, .any, .any, .any, .any, .any, .any, .any, .any, .any, .any]) : Runs Try.prog 85 [a0] H Q :=
  @fn_go Try.prog mixed 85 Try.f85 C85 [.tmp 2] Try.func85 C85_ok C85_res C85_nm 20 Try.ntmps85 [a0] [a0, .any, .any, .any, .any, .any, .any, .any, .any, .any, .any, .any, .any, .any, .any, .any, .any, .any, .any, .any] H Q h 19 (by kernel_rfl) (by kernel_rfl)

/-- laws.markSecurityS -/
def C26 : CC :=
 (.seq (.ops [⟨some 4, none, .mv (.const (.int .i64 0))⟩])
 (.seq (.seq (.ops [⟨some 5, none, .mv (.const (.int .i64 0))⟩])
  (.block 0 (.loop (.seq (.seq (.ops [⟨some 6, none, .mv (.tmp 5)⟩,
       ⟨some 7, none, .mv (.tmp 0)⟩,
       ⟨some 8, none, .len false (.tmp 7)⟩,
       ⟨some 9, none, .bin .lss 0 (.tmp 6) (.tmp 8)⟩])
     (.cond (.tmp 9) .skip
     (.exit 0)))
    (.seq (.block 1 (.seq (.ops [⟨some 12, none, .mv (.tmp 0)⟩,
        ⟨some 13, none, .mv (.tmp 5)⟩,
        ⟨some 14, none, .mv (.tmp 1)⟩,
        ⟨some 15, none, .call (.func 85) [(.tmp 14)]⟩,
        ⟨some 16, none, .ia 3 (.tmp 12) (.tmp 13)⟩,
        ⟨some 17, none, .fa 0 (.tmp 16)⟩,
        ⟨none, none, .store 1 (.tmp 17) (.tmp 15)⟩])
      (.seq (.ops [⟨some 18, none, .mv (.tmp 1)⟩,
        ⟨some 19, none, .bin .add 0 (.tmp 18) (.const (.int .i64 1))⟩,
        ⟨some 1, none, .mv (.tmp 19)⟩])
      (.seq (.ops [⟨some 20, none, .mv (.tmp 0)⟩,
        ⟨some 21, none, .mv (.tmp 5)⟩,
        ⟨some 22, none, .mv (.tmp 1)⟩,
        ⟨some 23, none, .ia 3 (.tmp 20) (.tmp 21)⟩,
        ⟨some 24, none, .fa 1 (.tmp 23)⟩,
        ⟨none, none, .store 1 (.tmp 24) (.tmp 22)⟩])
      (.seq (.ops [⟨some 25, none, .mv (.tmp 1)⟩,
        ⟨some 26, none, .bin .add 0 (.tmp 25) (.const (.int .i64 1))⟩,
        ⟨some 1, none, .mv (.tmp 26)⟩])
      (.seq (.ops [⟨some 27, none, .mv (.tmp 0)⟩,
        ⟨some 28, none, .mv (.tmp 5)⟩,
        ⟨some 29, none, .mv (.tmp 1)⟩,
        ⟨some 30, none, .ia 3 (.tmp 27) (.tmp 28)⟩,
        ⟨some 31, none, .fa 2 (.tmp 30)⟩,
        ⟨none, none, .store 1 (.tmp 31) (.tmp 29)⟩])
      (.ops [⟨some 32, none, .mv (.tmp 1)⟩,
       ⟨some 33, none, .bin .add 0 (.tmp 32) (.const (.int .i64 1))⟩,
       ⟨some 1, none, .mv (.tmp 33)⟩])))))))
    (.ops [⟨some 10, none, .mv (.tmp 5)⟩,
     ⟨some 11, none, .bin .add 0 (.tmp 10) (.const (.int .i64 1))⟩,
     ⟨some 5, none, .mv (.tmp 11)⟩]))))))
 (.seq (.ops [⟨some 34, none, .mv (.tmp 1)⟩,
   ⟨some 4, none, .mv (.tmp 34)⟩])
 .ret)))
theorem C26_ok : Try.f26.body.bind (comp Try.prog) = some C26 := by kernel_rfl
theorem C26_res : compRs Try.prog Try.f26.results.toList = some [.tmp 4] := by kernel_rfl
theorem C26_nm : (Try.f26.name == "runtime.NumGoroutine") = false := by kernel_rfl
theorem C26_fn {a0 a1 : AV} {H : Heap} {Q : AV → Heap → Prop} (h : vc Try.prog C26 (vcEnd [.tmp 4] Q) H [a0, a1, .any, .any, .any, .any, .any, .any, .any, .any, .any, .any, .any, .any, .any, .any, .any, .any, .any, .any, .any, .any, .any, .any, .any, .any, .any, .any, .any, .any, .any, .any, .any, .any, .any]) : Runs Try.prog 26 [a0, a1] H Q :=
  @fn_go Try.prog mixed 26 Try.f26 C26 [.tmp 4] Try.func26 C26_ok C26_res C26_nm 35 Try.ntmps26 [a0, a1] [a0, a1, .any, .any, .any, .any, .any, .any, .any, .any, .any, .any, .any, .any, .any, .any, .any, .any, .any, .any, .any, .any, .any, .any, .any, .any, .any, .any, .any, .any, .any, .any, .any, .any, .any] H Q h 33 (by kernel_rfl) (by kernel_rfl)

/-- laws.markInt64S -/
def C27 : CC :=
 (.seq (.ops [⟨some 4, none, .mv (.const (.int .i64 0))⟩])
 (.seq (.seq (.ops [⟨some 5, none, .mv (.const (.int .i64 0))⟩])
  (.block 0 (.loop (.seq (.seq (.ops [⟨some 6, none, .mv (.tmp 5)⟩,
       ⟨some 7, none, .mv (.tmp 0)⟩,
       ⟨some 8, none, .len false (.tmp 7)⟩,
       ⟨some 9, none, .bin .lss 0 (.tmp 6) (.tmp 8)⟩])
     (.cond (.tmp 9) .skip
     (.exit 0)))
    (.seq (.block 1 (.seq (.ops [⟨some 12, none, .mv (.tmp 0)⟩,
        ⟨some 13, none, .mv (.tmp 5)⟩,
        ⟨some 14, none, .mv (.tmp 1)⟩,
        ⟨some 15, none, .ia 1 (.tmp 12) (.tmp 13)⟩,
        ⟨none, none, .store 1 (.tmp 15) (.tmp 14)⟩])
      (.ops [⟨some 16, none, .mv (.tmp 1)⟩,
       ⟨some 17, none, .bin .add 0 (.tmp 16) (.const (.int .i64 1))⟩,
       ⟨some 1, none, .mv (.tmp 17)⟩])))
    (.ops [⟨some 10, none, .mv (.tmp 5)⟩,
     ⟨some 11, none, .bin .add 0 (.tmp 10) (.const (.int .i64 1))⟩,
     ⟨some 5, none, .mv (.tmp 11)⟩]))))))
 (.seq (.ops [⟨some 18, none, .mv (.tmp 1)⟩,
   ⟨some 4, none, .mv (.tmp 18)⟩])
 .ret)))
theorem C27_ok : Try.f27.body.bind (comp Try.prog) = some C27 := by kernel_rfl
theorem C27_res : compRs Try.prog Try.f27.results.toList = some [.tmp 4] := by kernel_rfl
theorem C27_nm : (Try.f27.name == "runtime.NumGoroutine") = false := by kernel_rfl
theorem C27_fn {a0 a1 : AV} {H : Heap} {Q : AV → Heap → Prop} (h : vc Try.prog C27 (vcEnd [.tmp 4] Q) H [a0, a1, .any, .any, .any, .any, .any, .any, .any, .any, .any, .any, .any, .any, .any, .any, .any, .any, .any]) : Runs Try.prog 27 [a0, a1] H Q :=
  @fn_go Try.prog mixed 27 Try.f27 C27 [.tmp 4] Try.func27 C27_ok C27_res C27_nm 19 Try.ntmps27 [a0, a1] [a0, a1, .any, .any, .any, .any, .any, .any, .any, .any, .any, .any, .any, .any, .any, .any, .any, .any, .any] H Q h 17 (by kernel_rfl) (by kernel_rfl)

/-- laws.heldInt64S -/
def C28 : CC :=
 (.seq (.ops [⟨some 4, none, .mv (.const (.int .i64 0))⟩])
 (.seq (.seq (.ops [⟨some 5, none, .mv (.const (.int .i64 0))⟩])
  (.block 0 (.loop (.seq (.seq (.ops [⟨some 6, none, .mv (.tmp 5)⟩,
       ⟨some 7, none, .mv (.tmp 0)⟩,
       ⟨some 8, none, .len false (.tmp 7)⟩,
       ⟨some 9, none, .bin .lss 0 (.tmp 6) (.tmp 8)⟩])
     (.cond (.tmp 9) .skip
     (.exit 0)))
    (.seq (.block 1 (.seq (.seq (.ops [⟨some 12, none, .mv (.tmp 0)⟩,
         ⟨some 13, none, .mv (.tmp 5)⟩,
         ⟨some 14, none, .ia 1 (.tmp 12) (.tmp 13)⟩,
         ⟨some 15, none, .load false 1 (.tmp 14)⟩,
         ⟨some 16, none, .mv (.tmp 1)⟩,
         ⟨some 17, none, .bin .neq 0 (.tmp 15) (.tmp 16)⟩])
       (.cond (.tmp 17) (.seq (.ops [⟨some 4, none, .mv (.const (.int .i64 (-1)))⟩])
        .ret)
       .skip))
      (.ops [⟨some 18, none, .mv (.tmp 1)⟩,
       ⟨some 19, none, .bin .add 0 (.tmp 18) (.const (.int .i64 1))⟩,
       ⟨some 1, none, .mv (.tmp 19)⟩])))
    (.ops [⟨some 10, none, .mv (.tmp 5)⟩,
     ⟨some 11, none, .bin .add 0 (.tmp 10) (.const (.int .i64 1))⟩,
     ⟨some 5, none, .mv (.tmp 11)⟩]))))))
 (.seq (.ops [⟨some 20, none, .mv (.tmp 1)⟩,
   ⟨some 4, none, .mv (.tmp 20)⟩])
 .ret)))
theorem C28_ok : Try.f28.body.bind (comp Try.prog) = some C28 := by kernel_rfl
theorem C28_res : compRs Try.prog Try.f28.results.toList = some [.tmp 4] := by kernel_rfl
theorem C28_nm : (Try.f28.name == "runtime.NumGoroutine") = false := by kernel_rfl
theorem C28_fn {a0 a1 : AV} {H : Heap} {Q : AV → Heap → Prop} (h : vc Try.prog C28 (vcEnd [.tmp 4] Q) H [a0, a1, .any, .any, .any, .any, .any, .any, .any, .any, .any, .any, .any, .any, .any, .any, .any, .any, .any, .any, .any]) : Runs Try.prog 28 [a0, a1] H Q :=
  @fn_go Try.prog mixed 28 Try.f28 C28 [.tmp 4] Try.func28 C28_ok C28_res C28_nm 21 Try.ntmps28 [a0, a1] [a0, a1, .any, .any, .any, .any, .any, .any, .any, .any, .any, .any, .any, .any, .any, .any, .any, .any, .any, .any, .any] H Q h 19 (by kernel_rfl) (by kernel_rfl)

/-- laws.FnExactTotalsByKind -/
def C4 : CC :=
 (.seq (.ops [⟨some 2, none, .mv (.const (.bool false))⟩])
 (.seq (.ops [⟨some 3, none, .mv (.const (.int .i64 1048576))⟩])
 (.seq (.ops [⟨some 14, none, .mv (.tmp 0)⟩,
   ⟨some 15, none, .mv (.tmp 3)⟩,
   ⟨some 16, none, .call (.func 20) [(.tmp 14), (.tmp 15)]⟩,
   ⟨some 3, none, .mv (.tmp 16)⟩])
 (.seq (.seq (.ops [⟨some 17, none, .mv (.tmp 3)⟩,
    ⟨some 18, none, .bin .lss 0 (.tmp 17) (.const (.int .i64 0))⟩])
  (.cond (.tmp 18) (.seq (.ops [⟨some 2, none, .mv (.const (.bool true))⟩])
   .ret)
  .skip))
 (.seq (.ops [⟨some 20, none, .mv (.tmp 0)⟩,
   ⟨some 21, none, .call (.func 22) [(.tmp 20)]⟩,
   ⟨some 22, none, .call (.func 21) [(.tmp 21)]⟩,
   ⟨some 19, none, .mv (.tmp 22)⟩,
   ⟨some 23, none, .ext (.tmp 19) 0⟩,
   ⟨some 24, none, .ext (.tmp 19) 1⟩,
   ⟨some 4, none, .mv (.tmp 23)⟩,
   ⟨some 5, none, .mv (.tmp 24)⟩])
 (.seq (.ops [⟨some 25, none, .mv (.tmp 0)⟩,
   ⟨some 26, none, .call (.func 22) [(.tmp 25)]⟩,
   ⟨some 6, none, .mv (.tmp 26)⟩])
 (.seq (.ops [⟨some 28, none, .mv (.tmp 6)⟩,
   ⟨some 29, none, .call (.func 23) [(.tmp 28)]⟩,
   ⟨some 27, none, .mv (.tmp 29)⟩,
   ⟨some 30, none, .ext (.tmp 27) 0⟩,
   ⟨some 31, none, .ext (.tmp 27) 1⟩,
   ⟨some 7, none, .mv (.tmp 30)⟩,
   ⟨some 8, none, .mv (.tmp 31)⟩])
 (.seq (.seq (.ops [⟨some 32, none, .mv (.tmp 7)⟩,
    ⟨some 33, none, .mv (.tmp 4)⟩,
    ⟨some 34, none, .call (.func 24) [(.tmp 32), (.tmp 33)]⟩,
    ⟨some 35, none, .not (.tmp 34)⟩,
    ⟨some 36, none, .mv (.tmp 35)⟩,
    ⟨some 37, some (36, false), .mv (.tmp 8)⟩,
    ⟨some 38, some (36, false), .mv (.tmp 5)⟩,
    ⟨some 39, some (36, false), .bin .neq 0 (.tmp 37) (.tmp 38)⟩,
    ⟨some 40, none, .pick (.tmp 36) (.const (.bool true)) (.tmp 39)⟩])
  (.cond (.tmp 40) (.seq (.ops [⟨some 2, none, .mv (.const (.bool false))⟩])
   .ret)
  .skip))
 (.seq (.seq (.ops [⟨some 41, none, .mv (.tmp 6)⟩,
    ⟨some 42, none, .mv (.tmp 0)⟩,
    ⟨some 43, none, .call (.func 22) [(.tmp 42)]⟩,
    ⟨some 44, none, .call (.func 25) [(.tmp 41), (.tmp 43)]⟩,
    ⟨some 45, none, .not (.tmp 44)⟩])
  (.cond (.tmp 45) (.seq (.ops [⟨some 2, none, .mv (.const (.bool false))⟩])
   .ret)
  .skip))
 (.seq (.ops [⟨some 9, none, .mv (.const (.int .i64 1))⟩])
 (.seq (.ops [⟨some 46, none, .mv (.tmp 6)⟩,
   ⟨some 47, none, .mv (.tmp 9)⟩,
   ⟨some 48, none, .call (.func 26) [(.tmp 46), (.tmp 47)]⟩,
   ⟨some 9, none, .mv (.tmp 48)⟩])
 (.seq (.seq (.ops [⟨some 49, none, .mv (.tmp 9)⟩,
    ⟨some 50, none, .bin .lss 0 (.tmp 49) (.const (.int .i64 0))⟩,
    ⟨some 51, none, .mv (.tmp 50)⟩,
    ⟨some 52, some (51, false), .mv (.tmp 7)⟩,
    ⟨some 53, some (51, false), .mv (.tmp 4)⟩,
    ⟨some 54, some (51, false), .call (.func 24) [(.tmp 52), (.tmp 53)]⟩,
    ⟨some 55, some (51, false), .not (.tmp 54)⟩,
    ⟨some 56, none, .pick (.tmp 51) (.const (.bool true)) (.tmp 55)⟩,
    ⟨some 57, none, .mv (.tmp 56)⟩,
    ⟨some 58, some (57, false), .mv (.tmp 8)⟩,
    ⟨some 59, some (57, false), .mv (.tmp 5)⟩,
    ⟨some 60, some (57, false), .bin .neq 0 (.tmp 58) (.tmp 59)⟩,
    ⟨some 61, none, .pick (.tmp 57) (.const (.bool true)) (.tmp 60)⟩])
  (.cond (.tmp 61) (.seq (.ops [⟨some 2, none, .mv (.const (.bool false))⟩])
   .ret)
  .skip))
 (.seq (.ops [⟨some 10, none, .mv (.const (.int .i64 1))⟩])
 (.seq (.ops [⟨some 62, none, .mv (.tmp 7)⟩,
   ⟨some 63, none, .mv (.tmp 10)⟩,
   ⟨some 64, none, .call (.func 27) [(.tmp 62), (.tmp 63)]⟩,
   ⟨some 10, none, .mv (.tmp 64)⟩])
 (.seq (.ops [⟨some 11, none, .mv (.const (.int .i64 1))⟩])
 (.seq (.ops [⟨some 65, none, .mv (.tmp 7)⟩,
   ⟨some 66, none, .mv (.tmp 11)⟩,
   ⟨some 67, none, .call (.func 28) [(.tmp 65), (.tmp 66)]⟩,
   ⟨some 11, none, .mv (.tmp 67)⟩])
 (.seq (.seq (.ops [⟨some 68, none, .mv (.tmp 11)⟩,
    ⟨some 69, none, .bin .lss 0 (.tmp 68) (.const (.int .i64 0))⟩])
  (.cond (.tmp 69) (.seq (.ops [⟨some 2, none, .mv (.const (.bool false))⟩])
   .ret)
  .skip))
 (.seq (.seq (.ops [⟨some 70, none, .mv (.tmp 11)⟩,
    ⟨some 71, none, .mv (.tmp 10)⟩,
    ⟨some 72, none, .bin .neq 0 (.tmp 70) (.tmp 71)⟩])
  (.cond (.tmp 72) (.seq (.ops [⟨some 2, none, .mv (.const (.bool false))⟩])
   .ret)
  .skip))
 (.seq (.ops [⟨some 74, none, .mv (.tmp 0)⟩,
   ⟨some 75, none, .call (.func 22) [(.tmp 74)]⟩,
   ⟨some 76, none, .call (.func 23) [(.tmp 75)]⟩,
   ⟨some 73, none, .mv (.tmp 76)⟩,
   ⟨some 77, none, .ext (.tmp 73) 0⟩,
   ⟨some 78, none, .ext (.tmp 73) 1⟩,
   ⟨some 12, none, .mv (.tmp 77)⟩,
   ⟨some 13, none, .mv (.tmp 78)⟩])
 (.seq (.seq (.ops [⟨some 79, none, .mv (.tmp 12)⟩,
    ⟨some 80, none, .mv (.tmp 4)⟩,
    ⟨some 81, none, .call (.func 24) [(.tmp 79), (.tmp 80)]⟩,
    ⟨some 82, none, .not (.tmp 81)⟩,
    ⟨some 83, none, .mv (.tmp 82)⟩,
    ⟨some 84, some (83, false), .mv (.tmp 13)⟩,
    ⟨some 85, some (83, false), .mv (.tmp 5)⟩,
    ⟨some 86, some (83, false), .bin .neq 0 (.tmp 84) (.tmp 85)⟩,
    ⟨some 87, none, .pick (.tmp 83) (.const (.bool true)) (.tmp 86)⟩])
  (.cond (.tmp 87) (.seq (.ops [⟨some 2, none, .mv (.const (.bool false))⟩])
   .ret)
  .skip))
 (.seq (.ops [⟨some 11, none, .mv (.const (.int .i64 1))⟩])
 (.seq (.ops [⟨some 88, none, .mv (.tmp 7)⟩,
   ⟨some 89, none, .mv (.tmp 11)⟩,
   ⟨some 90, none, .call (.func 28) [(.tmp 88), (.tmp 89)]⟩,
   ⟨some 11, none, .mv (.tmp 90)⟩])
 (.seq (.seq (.ops [⟨some 91, none, .mv (.tmp 11)⟩,
    ⟨some 92, none, .bin .lss 0 (.tmp 91) (.const (.int .i64 0))⟩])
  (.cond (.tmp 92) (.seq (.ops [⟨some 2, none, .mv (.const (.bool false))⟩])
   .ret)
  .skip))
 (.seq (.seq (.ops [⟨some 93, none, .mv (.tmp 11)⟩,
    ⟨some 94, none, .mv (.tmp 10)⟩,
    ⟨some 95, none, .bin .neq 0 (.tmp 93) (.tmp 94)⟩])
  (.cond (.tmp 95) (.seq (.ops [⟨some 2, none, .mv (.const (.bool false))⟩])
   .ret)
  .skip))
 (.seq (.ops [⟨some 2, none, .mv (.const (.bool true))⟩])
 .ret)))))))))))))))))))))))))
theorem C4_ok : Try.f4.body.bind (comp Try.prog) = some C4 := by kernel_rfl
theorem C4_res : compRs Try.prog Try.f4.results.toList = some [.tmp 2] := by kernel_rfl
theorem C4_nm : (Try.f4.name == "runtime.NumGoroutine") = false := by kernel_rfl
theorem C4_fn {a0 : AV} {H : Heap} {Q : AV → Heap → Prop} (h : vc Try.prog C4 (vcEnd [.tmp 2] Q) H [a0, .any, .any, .any, .any, .any, .any, .any, .any, .any, .any, .any, .any, .any, .any, .any, .any, .any, .any, .any, .any, .any, .any, .any, .any, .any, .any, .any, .any, .any, .any, .any, .any, .any, .any, .any, .any, .any, .any, .any, .any, .any, .any, .any, .any, .any, .any, .any, .any, .any, .any, .any, .any, .any, .any, .any, .any, .any, .any, .any, .any, .any, .any, .any, .any, .any, .any, .any, .any, .any, .any, .any, .any, .any, .any, .any, .any, .any, .any, .any, .any, .any, .any, .any, .any, .any, .any, .any, .any, .any, .any, .any, .any, .any, .any, .any]) : Runs Try.prog 4 [a0] H Q :=
  @fn_go Try.prog mixed 4 Try.f4 C4 [.tmp 2] Try.func4 C4_ok C4_res C4_nm 96 Try.ntmps4 [a0] [a0, .any, .any, .any, .any, .any, .any, .any, .any, .any, .any, .any, .any, .any, .any, .any, .any, .any, .any, .any, .any, .any, .any, .any, .any, .any, .any, .any, .any, .any, .any, .any, .any, .any, .any, .any, .any, .any, .any, .any, .any, .any, .any, .any, .any, .any, .any, .any, .any, .any, .any, .any, .any, .any, .any, .any, .any, .any, .any, .any, .any, .any, .any, .any, .any, .any, .any, .any, .any, .any, .any, .any, .any, .any, .any, .any, .any, .any, .any, .any, .any, .any, .any, .any, .any, .any, .any, .any, .any, .any, .any, .any, .any, .any, .any, .any] H Q h 95 (by kernel_rfl) (by kernel_rfl)

/-- spec.RemainingSecurities -/
def C29 : CC :=
 (.seq (.ops [⟨some 4, none, .mv (.const (.slice none 0 0))⟩,
   ⟨some 5, none, .mv (.const (.int .i64 0))⟩])
 (.seq (.seq (.ops [⟨some 9, none, .mv (.tmp 0)⟩,
    ⟨some 10, none, .call (.func 81) [(.tmp 9)]⟩,
    ⟨some 11, none, .not (.tmp 10)⟩])
  (.cond (.tmp 11) (.seq (.ops [⟨some 4, none, .mv (.const (.slice none 0 0))⟩,
     ⟨some 5, none, .mv (.const (.int .i64 1))⟩])
   .ret)
  .skip))
 (.seq (.seq (.ops [⟨some 12, none, .mv (.tmp 1)⟩,
    ⟨some 13, none, .len false (.tmp 12)⟩,
    ⟨some 14, none, .mv (.tmp 0)⟩,
    ⟨some 15, none, .len false (.tmp 14)⟩,
    ⟨some 16, none, .bin .neq 0 (.tmp 13) (.tmp 15)⟩])
  (.cond (.tmp 16) (.seq (.ops [⟨some 4, none, .mv (.const (.slice none 0 0))⟩,
     ⟨some 5, none, .mv (.const (.int .i64 2))⟩])
   .ret)
  .skip))
 (.seq (.ops [⟨some 17, none, .lit 3 []⟩,
   ⟨some 6, none, .mv (.tmp 17)⟩])
 (.seq (.seq (.ops [⟨some 7, none, .mv (.const (.int .i64 0))⟩])
  (.block 0 (.loop (.seq (.seq (.ops [⟨some 18, none, .mv (.tmp 7)⟩,
       ⟨some 19, none, .mv (.tmp 0)⟩,
       ⟨some 20, none, .len false (.tmp 19)⟩,
       ⟨some 21, none, .bin .lss 0 (.tmp 18) (.tmp 20)⟩])
     (.cond (.tmp 21) .skip
     (.exit 0)))
    (.seq (.block 1 (.seq (.ops [⟨some 24, none, .mv (.tmp 0)⟩,
        ⟨some 25, none, .mv (.tmp 7)⟩,
        ⟨some 26, none, .ia 3 (.tmp 24) (.tmp 25)⟩,
        ⟨some 27, none, .load true 3 (.tmp 26)⟩,
        ⟨some 8, none, .alloc [.string ⟨#[]⟩, .int .i64 0, .int .i64 0]⟩,
        ⟨none, none, .store 3 (.tmp 8) (.tmp 27)⟩])
      (.seq (.seq (.draw 8 [⟨some 28, none, .mv (.tmp 1)⟩,
         ⟨some 29, none, .mv (.tmp 7)⟩,
         ⟨some 30, none, .ia 1 (.tmp 28) (.tmp 29)⟩,
         ⟨some 31, none, .load false 1 (.tmp 30)⟩,
         ⟨some 32, none, .fa 2 (.tmp 8)⟩,
         ⟨some 33, none, .load false 1 (.tmp 32)⟩,
         ⟨some 34, none, .call (.func 86) [(.tmp 31), (.const (.int .i64 0)), (.tmp 33)]⟩,
         ⟨some 35, none, .not (.tmp 34)⟩])
       (.cond (.tmp 35) (.seq (.ops [⟨some 4, none, .mv (.const (.slice none 0 0))⟩,
          ⟨some 5, none, .mv (.const (.int .i64 2))⟩])
        .ret)
       .skip))
      (.seq (.draw 7 [⟨some 36, none, .fa 2 (.tmp 8)⟩,
        ⟨some 37, none, .load false 1 (.tmp 36)⟩,
        ⟨some 38, none, .mv (.tmp 1)⟩,
        ⟨some 39, none, .mv (.tmp 7)⟩,
        ⟨some 40, none, .ia 1 (.tmp 38) (.tmp 39)⟩,
        ⟨some 41, none, .load false 1 (.tmp 40)⟩,
        ⟨some 42, none, .bin .sub 0 (.tmp 37) (.tmp 41)⟩,
        ⟨some 43, none, .fa 2 (.tmp 8)⟩,
        ⟨none, none, .store 1 (.tmp 43) (.tmp 42)⟩])
      (.seq (.ops [⟨some 44, none, .fa 2 (.tmp 8)⟩,
        ⟨some 45, none, .load false 1 (.tmp 44)⟩,
        ⟨some 46, none, .bin .gtr 0 (.tmp 45) (.const (.int .i64 0))⟩])
      (.cond (.tmp 46) (.ops [⟨some 47, none, .mv (.tmp 6)⟩,
        ⟨some 48, none, .load true 3 (.tmp 8)⟩,
        ⟨some 49, none, .lit 3 [(.tmp 48)]⟩,
        ⟨some 50, none, .app 3 32 (.tmp 47) (.tmp 49)⟩,
        ⟨some 6, none, .mv (.tmp 50)⟩])
      .skip))))))
    (.ops [⟨some 22, none, .mv (.tmp 7)⟩,
     ⟨some 23, none, .bin .add 0 (.tmp 22) (.const (.int .i64 1))⟩,
     ⟨some 7, none, .mv (.tmp 23)⟩]))))))
 (.seq (.ops [⟨some 51, none, .mv (.tmp 6)⟩,
   ⟨some 4, none, .mv (.tmp 51)⟩,
   ⟨some 5, none, .mv (.const (.int .i64 0))⟩])
 .ret))))))
theorem C29_ok : Try.f29.body.bind (comp Try.prog) = some C29 := by kernel_rfl
theorem C29_res : compRs Try.prog Try.f29.results.toList = some [.tmp 4, .tmp 5] := by kernel_rfl
theorem C29_nm : (Try.f29.name == "runtime.NumGoroutine") = false := by kernel_rfl
theorem C29_fn {a0 a1 : AV} {H : Heap} {Q : AV → Heap → Prop} (h : vc Try.prog C29 (vcEnd [.tmp 4, .tmp 5] Q) H [a0, a1, .any, .any, .any, .any, .any, .any, .any, .any, .any, .any, .any, .any, .any, .any, .any, .any, .any, .any, .any, .any, .any, .any, .any, .any, .any, .any, .any, .any, .any, .any, .any, .any, .any, .any, .any, .any, .any, .any, .any, .any, .any, .any, .any, .any, .any, .any, .any, .any, .any, .any]) : Runs Try.prog 29 [a0, a1] H Q :=
  @fn_go Try.prog mixed 29 Try.f29 C29 [.tmp 4, .tmp 5] Try.func29 C29_ok C29_res C29_nm 52 Try.ntmps29 [a0, a1] [a0, a1, .any, .any, .any, .any, .any, .any, .any, .any, .any, .any, .any, .any, .any, .any, .any, .any, .any, .any, .any, .any, .any, .any, .any, .any, .any, .any, .any, .any, .any, .any, .any, .any, .any, .any, .any, .any, .any, .any, .any, .any, .any, .any, .any, .any, .any, .any, .any, .any, .any, .any] H Q h 50 (by kernel_rfl) (by kernel_rfl)

/-- laws.toInt64S -/
def C30 : CC :=
 (.seq (.ops [⟨some 2, none, .mv (.const (.slice none 0 0))⟩])
 (.seq (.ops [⟨some 5, none, .mv (.tmp 0)⟩,
   ⟨some 6, none, .len false (.tmp 5)⟩,
   ⟨some 7, none, .mks [.int .i64 0] 8 (.tmp 6)⟩,
   ⟨some 3, none, .mv (.tmp 7)⟩])
 (.seq (.seq (.ops [⟨some 4, none, .mv (.const (.int .i64 0))⟩])
  (.block 0 (.loop (.seq (.seq (.ops [⟨some 8, none, .mv (.tmp 4)⟩,
       ⟨some 9, none, .mv (.tmp 0)⟩,
       ⟨some 10, none, .len false (.tmp 9)⟩,
       ⟨some 11, none, .bin .lss 0 (.tmp 8) (.tmp 10)⟩])
     (.cond (.tmp 11) .skip
     (.exit 0)))
    (.seq (.block 1 (.ops [⟨some 14, none, .mv (.tmp 3)⟩,
       ⟨some 15, none, .mv (.tmp 4)⟩,
       ⟨some 16, none, .mv (.tmp 0)⟩,
       ⟨some 17, none, .mv (.tmp 4)⟩,
       ⟨some 18, none, .ia 1 (.tmp 16) (.tmp 17)⟩,
       ⟨some 19, none, .load false 1 (.tmp 18)⟩,
       ⟨some 20, none, .ia 1 (.tmp 14) (.tmp 15)⟩,
       ⟨none, none, .store 1 (.tmp 20) (.tmp 19)⟩]))
    (.ops [⟨some 12, none, .mv (.tmp 4)⟩,
     ⟨some 13, none, .bin .add 0 (.tmp 12) (.const (.int .i64 1))⟩,
     ⟨some 4, none, .mv (.tmp 13)⟩]))))))
 (.seq (.ops [⟨some 21, none, .mv (.tmp 3)⟩,
   ⟨some 2, none, .mv (.tmp 21)⟩])
 .ret))))
theorem C30_ok : Try.f30.body.bind (comp Try.prog) = some C30 := by kernel_rfl
theorem C30_res : compRs Try.prog Try.f30.results.toList = some [.tmp 2] := by kernel_rfl
theorem C30_nm : (Try.f30.name == "runtime.NumGoroutine") = false := by kernel_rfl
theorem C30_fn {a0 : AV} {H : Heap} {Q : AV → Heap → Prop} (h : vc Try.prog C30 (vcEnd [.tmp 2] Q) H [a0, .any, .any, .any, .any, .any, .any, .any, .any, .any, .any, .any, .any, .any, .any, .any, .any, .any, .any, .any, .any, .any]) : Runs Try.prog 30 [a0] H Q :=
  @fn_go Try.prog mixed 30 Try.f30 C30 [.tmp 2] Try.func30 C30_ok C30_res C30_nm 22 Try.ntmps30 [a0] [a0, .any, .any, .any, .any, .any, .any, .any, .any, .any, .any, .any, .any, .any, .any, .any, .any, .any, .any, .any, .any, .any] H Q h 21 (by kernel_rfl) (by kernel_rfl)

/-- impl.RemainingSecurities -/
def C31 : CC :=
 (.seq (.ops [⟨some 4, none, .mv (.const (.slice none 0 0))⟩,
   ⟨some 5, none, .mv (.const (.int .i64 0))⟩])
 (.seq (.block 0 (.seq (.ops [⟨some 10, none, .mv (.tmp 0)⟩,
     ⟨some 11, none, .call (.func 83) [(.tmp 10)]⟩,
     ⟨some 12, none, .not (.tmp 11)⟩,
     ⟨some 9, none, .mv (.tmp 12)⟩])
   (.cond (.tmp 9) (.seq (.ops [⟨some 4, none, .mv (.const (.slice none 0 0))⟩,
      ⟨some 5, none, .mv (.const (.int .i64 1))⟩])
    .ret)
   (.seq (.ops [⟨some 14, none, .mv (.tmp 1)⟩,
      ⟨some 15, none, .len false (.tmp 14)⟩,
      ⟨some 16, none, .mv (.tmp 0)⟩,
      ⟨some 17, none, .len false (.tmp 16)⟩,
      ⟨some 18, none, .bin .neq 0 (.tmp 15) (.tmp 17)⟩,
      ⟨some 13, none, .mv (.tmp 18)⟩])
    (.cond (.tmp 13) (.seq (.ops [⟨some 4, none, .mv (.const (.slice none 0 0))⟩,
       ⟨some 5, none, .mv (.const (.int .i64 2))⟩])
     .ret)
    .skip)))))
 (.seq (.ops [⟨some 19, none, .lit 3 []⟩,
   ⟨some 6, none, .mv (.tmp 19)⟩])
 (.seq (.seq (.ops [⟨some 20, none, .mv (.tmp 0)⟩,
    ⟨some 21, none, .len false (.tmp 20)⟩,
    ⟨some 22, none, .mv (.const (.int .i64 0))⟩])
  (.block 1 (.loop (.seq (.ops [⟨some 23, none, .bin .lss 0 (.tmp 22) (.tmp 21)⟩])
    (.seq (.cond (.tmp 23) .skip
     (.exit 1))
    (.seq (.block 2 (.seq (.ops [⟨some 24, none, .mv (.tmp 22)⟩,
        ⟨some 25, none, .ia 3 (.tmp 20) (.tmp 22)⟩,
        ⟨some 26, none, .load true 3 (.tmp 25)⟩,
        ⟨some 8, none, .alloc [.string ⟨#[]⟩, .int .i64 0, .int .i64 0]⟩,
        ⟨some 7, none, .mv (.tmp 24)⟩,
        ⟨none, none, .store 3 (.tmp 8) (.tmp 26)⟩])
      (.seq (.seq (.draw 8 [⟨some 27, none, .mv (.tmp 1)⟩,
         ⟨some 28, none, .mv (.tmp 7)⟩,
         ⟨some 29, none, .ia 1 (.tmp 27) (.tmp 28)⟩,
         ⟨some 30, none, .load false 1 (.tmp 29)⟩,
         ⟨some 31, none, .fa 2 (.tmp 8)⟩,
         ⟨some 32, none, .load false 1 (.tmp 31)⟩,
         ⟨some 33, none, .call (.func 87) [(.tmp 30), (.const (.int .i64 0)), (.tmp 32)]⟩,
         ⟨some 34, none, .not (.tmp 33)⟩])
       (.cond (.tmp 34) (.seq (.ops [⟨some 4, none, .mv (.const (.slice none 0 0))⟩,
          ⟨some 5, none, .mv (.const (.int .i64 2))⟩])
        .ret)
       .skip))
      (.seq (.draw 7 [⟨some 35, none, .fa 2 (.tmp 8)⟩,
        ⟨some 36, none, .load false 1 (.tmp 35)⟩,
        ⟨some 37, none, .mv (.tmp 1)⟩,
        ⟨some 38, none, .mv (.tmp 7)⟩,
        ⟨some 39, none, .ia 1 (.tmp 37) (.tmp 38)⟩,
        ⟨some 40, none, .load false 1 (.tmp 39)⟩,
        ⟨some 41, none, .bin .sub 0 (.tmp 36) (.tmp 40)⟩,
        ⟨some 42, none, .fa 2 (.tmp 8)⟩,
        ⟨none, none, .store 1 (.tmp 42) (.tmp 41)⟩])
      (.seq (.ops [⟨some 43, none, .fa 2 (.tmp 8)⟩,
        ⟨some 44, none, .load false 1 (.tmp 43)⟩,
        ⟨some 45, none, .bin .gtr 0 (.tmp 44) (.const (.int .i64 0))⟩])
      (.cond (.tmp 45) (.ops [⟨some 46, none, .mv (.tmp 6)⟩,
        ⟨some 47, none, .load true 3 (.tmp 8)⟩,
        ⟨some 48, none, .lit 3 [(.tmp 47)]⟩,
        ⟨some 49, none, .app 3 32 (.tmp 46) (.tmp 48)⟩,
        ⟨some 6, none, .mv (.tmp 49)⟩])
      .skip))))))
    (.ops [⟨some 50, none, .bin .add 0 (.tmp 22) (.const (.int .i64 1))⟩,
     ⟨some 22, none, .mv (.tmp 50)⟩])))))))
 (.seq (.ops [⟨some 51, none, .mv (.tmp 6)⟩,
   ⟨some 4, none, .mv (.tmp 51)⟩,
   ⟨some 5, none, .mv (.const (.int .i64 0))⟩])
 .ret)))))
theorem C31_ok : Try.f31.body.bind (comp Try.prog) = some C31 := by kernel_rfl
theorem C31_res : compRs Try.prog Try.f31.results.toList = some [.tmp 4, .tmp 5] := by kernel_rfl
theorem C31_nm : (Try.f31.name == "runtime.NumGoroutine") = false := by kernel_rfl
theorem C31_fn {a0 a1 : AV} {H : Heap} {Q : AV → Heap → Prop} (h : vc Try.prog C31 (vcEnd [.tmp 4, .tmp 5] Q) H [a0, a1, .any, .any, .any, .any, .any, .any, .any, .any, .any, .any, .any, .any, .any, .any, .any, .any, .any, .any, .any, .any, .any, .any, .any, .any, .any, .any, .any, .any, .any, .any, .any, .any, .any, .any, .any, .any, .any, .any, .any, .any, .any, .any, .any, .any, .any, .any, .any, .any, .any, .any]) : Runs Try.prog 31 [a0, a1] H Q :=
  @fn_go Try.prog mixed 31 Try.f31 C31 [.tmp 4, .tmp 5] Try.func31 C31_ok C31_res C31_nm 52 Try.ntmps31 [a0, a1] [a0, a1, .any, .any, .any, .any, .any, .any, .any, .any, .any, .any, .any, .any, .any, .any, .any, .any, .any, .any, .any, .any, .any, .any, .any, .any, .any, .any, .any, .any, .any, .any, .any, .any, .any, .any, .any, .any, .any, .any, .any, .any, .any, .any, .any, .any, .any, .any, .any, .any, .any, .any] H Q h 50 (by kernel_rfl) (by kernel_rfl)

end Go.Proofs.Ytbgnlnlgjmipfaa
