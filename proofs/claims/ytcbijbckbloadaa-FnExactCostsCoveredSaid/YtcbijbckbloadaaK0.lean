/- The code of the functions, in the form of our laws; each is the program's own, by the kernel. Written by a program of ours. -/
import Derived.Test.YtcbijbckbloadaaB0
import Derived.KernelRfl
namespace Go.Proofs.Ytcbijbckbloadaa
open Go.Abs

/-- spec.l01In -/
def C64 : CC :=
 (.seq (.ops [⟨some 6, none, .mv (.const (.bool false))⟩])
 (.seq (.ops [⟨some 7, none, .mv (.tmp 0)⟩,
   ⟨some 8, none, .mv (.tmp 1)⟩,
   ⟨some 9, none, .bin .geq 0 (.tmp 7) (.tmp 8)⟩,
   ⟨some 10, none, .mv (.tmp 9)⟩,
   ⟨some 11, some (10, true), .mv (.tmp 0)⟩,
   ⟨some 12, some (10, true), .mv (.tmp 2)⟩,
   ⟨some 13, some (10, true), .bin .leq 0 (.tmp 11) (.tmp 12)⟩,
   ⟨some 14, none, .pick (.tmp 10) (.tmp 13) (.const (.bool false))⟩,
   ⟨some 6, none, .mv (.tmp 14)⟩])
 .ret))
theorem C64_ok : Try.f64.body.bind (comp Try.prog) = some C64 := by kernel_rfl
theorem C64_res : compRs Try.prog Try.f64.results.toList = some [.tmp 6] := by kernel_rfl
theorem C64_nm : (Try.f64.name == "runtime.NumGoroutine") = false := by kernel_rfl
theorem C64_fn {a0 a1 a2 : AV} {H : Heap} {Q : AV → Heap → Prop} (h : vc Try.prog C64 (vcEnd [.tmp 6] Q) H [a0, a1, a2, .any, .any, .any, .any, .any, .any, .any, .any, .any, .any, .any, .any]) : Runs Try.prog 64 [a0, a1, a2] H Q :=
  @fn_go Try.prog mixed 64 Try.f64 C64 [.tmp 6] Try.func64 C64_ok C64_res C64_nm 15 Try.ntmps64 [a0, a1, a2] [a0, a1, a2, .any, .any, .any, .any, .any, .any, .any, .any, .any, .any, .any, .any] H Q h 12 (by kernel_rfl) (by kernel_rfl)

/-- spec.IsAmount -/
def C58 : CC :=
 (.seq (.ops [⟨some 2, none, .mv (.const (.bool false))⟩])
 (.seq (.ops [⟨some 3, none, .mv (.tmp 0)⟩,
   ⟨some 4, none, .call (.func 64) [(.tmp 3), (.const (.int .i64 0)), (.const (.int .i64 1000000000))]⟩,
   ⟨some 2, none, .mv (.tmp 4)⟩])
 .ret))
theorem C58_ok : Try.f58.body.bind (comp Try.prog) = some C58 := by kernel_rfl
theorem C58_res : compRs Try.prog Try.f58.results.toList = some [.tmp 2] := by kernel_rfl
theorem C58_nm : (Try.f58.name == "runtime.NumGoroutine") = false := by kernel_rfl
theorem C58_fn {a0 : AV} {H : Heap} {Q : AV → Heap → Prop} (h : vc Try.prog C58 (vcEnd [.tmp 2] Q) H [a0, .any, .any, .any, .any]) : Runs Try.prog 58 [a0] H Q :=
  @fn_go Try.prog mixed 58 Try.f58 C58 [.tmp 2] Try.func58 C58_ok C58_res C58_nm 5 Try.ntmps58 [a0] [a0, .any, .any, .any, .any] H Q h 4 (by kernel_rfl) (by kernel_rfl)

/-- spec.l04Points -/
def C59 : CC :=
 (.seq (.ops [⟨some 2, none, .mv (.const (.bool false))⟩])
 (.seq (.ops [⟨some 3, none, .mv (.tmp 0)⟩,
   ⟨some 4, none, .call (.func 64) [(.tmp 3), (.const (.int .i64 0)), (.const (.int .i64 10000))]⟩,
   ⟨some 2, none, .mv (.tmp 4)⟩])
 .ret))
theorem C59_ok : Try.f59.body.bind (comp Try.prog) = some C59 := by kernel_rfl
theorem C59_res : compRs Try.prog Try.f59.results.toList = some [.tmp 2] := by kernel_rfl
theorem C59_nm : (Try.f59.name == "runtime.NumGoroutine") = false := by kernel_rfl
theorem C59_fn {a0 : AV} {H : Heap} {Q : AV → Heap → Prop} (h : vc Try.prog C59 (vcEnd [.tmp 2] Q) H [a0, .any, .any, .any, .any]) : Runs Try.prog 59 [a0] H Q :=
  @fn_go Try.prog mixed 59 Try.f59 C59 [.tmp 2] Try.func59 C59_ok C59_res C59_nm 5 Try.ntmps59 [a0] [a0, .any, .any, .any, .any] H Q h 4 (by kernel_rfl) (by kernel_rfl)

/-- spec.FundFor -/
def C15 : CC :=
 (.seq (.ops [⟨some 4, none, .mv (.const (.int .i64 0))⟩,
   ⟨some 5, none, .mv (.const (.int .i64 0))⟩])
 (.seq (.seq (.ops [⟨some 6, none, .mv (.tmp 0)⟩,
    ⟨some 7, none, .call (.func 58) [(.tmp 6)]⟩,
    ⟨some 8, none, .not (.tmp 7)⟩,
    ⟨some 9, none, .mv (.tmp 8)⟩,
    ⟨some 10, some (9, false), .mv (.tmp 1)⟩,
    ⟨some 11, some (9, false), .call (.func 59) [(.tmp 10)]⟩,
    ⟨some 12, some (9, false), .not (.tmp 11)⟩,
    ⟨some 13, none, .pick (.tmp 9) (.const (.bool true)) (.tmp 12)⟩])
  (.cond (.tmp 13) (.seq (.ops [⟨some 4, none, .mv (.const (.int .i64 0))⟩,
     ⟨some 5, none, .mv (.const (.int .i64 2))⟩])
   .ret)
  .skip))
 (.seq (.ops [⟨some 14, none, .mv (.tmp 0)⟩,
   ⟨some 15, none, .mv (.tmp 1)⟩,
   ⟨some 16, none, .bin .mul 0 (.tmp 14) (.tmp 15)⟩,
   ⟨some 17, none, .bin .quo 0 (.tmp 16) (.const (.int .i64 10000))⟩,
   ⟨some 4, none, .mv (.tmp 17)⟩,
   ⟨some 5, none, .mv (.const (.int .i64 0))⟩])
 .ret)))
theorem C15_ok : Try.f15.body.bind (comp Try.prog) = some C15 := by kernel_rfl
theorem C15_res : compRs Try.prog Try.f15.results.toList = some [.tmp 4, .tmp 5] := by kernel_rfl
theorem C15_nm : (Try.f15.name == "runtime.NumGoroutine") = false := by kernel_rfl
theorem C15_fn {a0 a1 : AV} {H : Heap} {Q : AV → Heap → Prop} (h : vc Try.prog C15 (vcEnd [.tmp 4, .tmp 5] Q) H [a0, a1, .any, .any, .any, .any, .any, .any, .any, .any, .any, .any, .any, .any, .any, .any, .any, .any]) : Runs Try.prog 15 [a0, a1] H Q :=
  @fn_go Try.prog mixed 15 Try.f15 C15 [.tmp 4, .tmp 5] Try.func15 C15_ok C15_res C15_nm 18 Try.ntmps15 [a0, a1] [a0, a1, .any, .any, .any, .any, .any, .any, .any, .any, .any, .any, .any, .any, .any, .any, .any, .any] H Q h 16 (by kernel_rfl) (by kernel_rfl)

/-- impl.in -/
def C69 : CC :=
 (.seq (.ops [⟨some 6, none, .mv (.const (.bool false))⟩])
 (.seq (.ops [⟨some 7, none, .mv (.tmp 0)⟩,
   ⟨some 8, none, .mv (.tmp 1)⟩,
   ⟨some 9, none, .bin .geq 0 (.tmp 7) (.tmp 8)⟩,
   ⟨some 10, none, .mv (.tmp 9)⟩,
   ⟨some 11, some (10, true), .mv (.tmp 0)⟩,
   ⟨some 12, some (10, true), .mv (.tmp 2)⟩,
   ⟨some 13, some (10, true), .bin .leq 0 (.tmp 11) (.tmp 12)⟩,
   ⟨some 14, none, .pick (.tmp 10) (.tmp 13) (.const (.bool false))⟩,
   ⟨some 6, none, .mv (.tmp 14)⟩])
 .ret))
theorem C69_ok : Try.f69.body.bind (comp Try.prog) = some C69 := by kernel_rfl
theorem C69_res : compRs Try.prog Try.f69.results.toList = some [.tmp 6] := by kernel_rfl
theorem C69_nm : (Try.f69.name == "runtime.NumGoroutine") = false := by kernel_rfl
theorem C69_fn {a0 a1 a2 : AV} {H : Heap} {Q : AV → Heap → Prop} (h : vc Try.prog C69 (vcEnd [.tmp 6] Q) H [a0, a1, a2, .any, .any, .any, .any, .any, .any, .any, .any, .any, .any, .any, .any]) : Runs Try.prog 69 [a0, a1, a2] H Q :=
  @fn_go Try.prog mixed 69 Try.f69 C69 [.tmp 6] Try.func69 C69_ok C69_res C69_nm 15 Try.ntmps69 [a0, a1, a2] [a0, a1, a2, .any, .any, .any, .any, .any, .any, .any, .any, .any, .any, .any, .any] H Q h 12 (by kernel_rfl) (by kernel_rfl)

/-- impl.IsAmount -/
def C60 : CC :=
 (.seq (.ops [⟨some 2, none, .mv (.const (.bool false))⟩])
 (.seq (.ops [⟨some 3, none, .mv (.tmp 0)⟩,
   ⟨some 4, none, .call (.func 69) [(.tmp 3), (.const (.int .i64 0)), (.const (.int .i64 1000000000))]⟩,
   ⟨some 2, none, .mv (.tmp 4)⟩])
 .ret))
theorem C60_ok : Try.f60.body.bind (comp Try.prog) = some C60 := by kernel_rfl
theorem C60_res : compRs Try.prog Try.f60.results.toList = some [.tmp 2] := by kernel_rfl
theorem C60_nm : (Try.f60.name == "runtime.NumGoroutine") = false := by kernel_rfl
theorem C60_fn {a0 : AV} {H : Heap} {Q : AV → Heap → Prop} (h : vc Try.prog C60 (vcEnd [.tmp 2] Q) H [a0, .any, .any, .any, .any]) : Runs Try.prog 60 [a0] H Q :=
  @fn_go Try.prog mixed 60 Try.f60 C60 [.tmp 2] Try.func60 C60_ok C60_res C60_nm 5 Try.ntmps60 [a0] [a0, .any, .any, .any, .any] H Q h 4 (by kernel_rfl) (by kernel_rfl)

/-- impl.isPoints -/
def C61 : CC :=
 (.seq (.ops [⟨some 2, none, .mv (.const (.bool false))⟩])
 (.seq (.ops [⟨some 3, none, .mv (.tmp 0)⟩,
   ⟨some 4, none, .call (.func 69) [(.tmp 3), (.const (.int .i64 0)), (.const (.int .i64 10000))]⟩,
   ⟨some 2, none, .mv (.tmp 4)⟩])
 .ret))
theorem C61_ok : Try.f61.body.bind (comp Try.prog) = some C61 := by kernel_rfl
theorem C61_res : compRs Try.prog Try.f61.results.toList = some [.tmp 2] := by kernel_rfl
theorem C61_nm : (Try.f61.name == "runtime.NumGoroutine") = false := by kernel_rfl
theorem C61_fn {a0 : AV} {H : Heap} {Q : AV → Heap → Prop} (h : vc Try.prog C61 (vcEnd [.tmp 2] Q) H [a0, .any, .any, .any, .any]) : Runs Try.prog 61 [a0] H Q :=
  @fn_go Try.prog mixed 61 Try.f61 C61 [.tmp 2] Try.func61 C61_ok C61_res C61_nm 5 Try.ntmps61 [a0] [a0, .any, .any, .any, .any] H Q h 4 (by kernel_rfl) (by kernel_rfl)

/-- impl.FundFor -/
def C16 : CC :=
 (.seq (.ops [⟨some 4, none, .mv (.const (.int .i64 0))⟩,
   ⟨some 5, none, .mv (.const (.int .i64 0))⟩])
 (.seq (.seq (.ops [⟨some 6, none, .mv (.tmp 0)⟩,
    ⟨some 7, none, .call (.func 60) [(.tmp 6)]⟩,
    ⟨some 8, none, .not (.tmp 7)⟩,
    ⟨some 9, none, .mv (.tmp 8)⟩,
    ⟨some 10, some (9, false), .mv (.tmp 1)⟩,
    ⟨some 11, some (9, false), .call (.func 61) [(.tmp 10)]⟩,
    ⟨some 12, some (9, false), .not (.tmp 11)⟩,
    ⟨some 13, none, .pick (.tmp 9) (.const (.bool true)) (.tmp 12)⟩])
  (.cond (.tmp 13) (.seq (.ops [⟨some 4, none, .mv (.const (.int .i64 0))⟩,
     ⟨some 5, none, .mv (.const (.int .i64 2))⟩])
   .ret)
  .skip))
 (.seq (.ops [⟨some 14, none, .mv (.tmp 0)⟩,
   ⟨some 15, none, .mv (.tmp 1)⟩,
   ⟨some 16, none, .bin .mul 0 (.tmp 14) (.tmp 15)⟩,
   ⟨some 17, none, .bin .quo 0 (.tmp 16) (.const (.int .i64 10000))⟩,
   ⟨some 4, none, .mv (.tmp 17)⟩,
   ⟨some 5, none, .mv (.const (.int .i64 0))⟩])
 .ret)))
theorem C16_ok : Try.f16.body.bind (comp Try.prog) = some C16 := by kernel_rfl
theorem C16_res : compRs Try.prog Try.f16.results.toList = some [.tmp 4, .tmp 5] := by kernel_rfl
theorem C16_nm : (Try.f16.name == "runtime.NumGoroutine") = false := by kernel_rfl
theorem C16_fn {a0 a1 : AV} {H : Heap} {Q : AV → Heap → Prop} (h : vc Try.prog C16 (vcEnd [.tmp 4, .tmp 5] Q) H [a0, a1, .any, .any, .any, .any, .any, .any, .any, .any, .any, .any, .any, .any, .any, .any, .any, .any]) : Runs Try.prog 16 [a0, a1] H Q :=
  @fn_go Try.prog mixed 16 Try.f16 C16 [.tmp 4, .tmp 5] Try.func16 C16_ok C16_res C16_nm 18 Try.ntmps16 [a0, a1] [a0, a1, .any, .any, .any, .any, .any, .any, .any, .any, .any, .any, .any, .any, .any, .any, .any, .any] H Q h 16 (by kernel_rfl) (by kernel_rfl)

/-- laws.FnExactFundFor -/
def C3 : CC :=
 (.seq (.ops [⟨some 4, none, .mv (.const (.bool false))⟩])
 (.seq (.ops [⟨some 10, none, .mv (.tmp 0)⟩,
   ⟨some 11, none, .mv (.tmp 1)⟩,
   ⟨some 12, none, .call (.func 15) [(.tmp 10), (.tmp 11)]⟩,
   ⟨some 9, none, .mv (.tmp 12)⟩,
   ⟨some 13, none, .ext (.tmp 9) 0⟩,
   ⟨some 14, none, .ext (.tmp 9) 1⟩,
   ⟨some 5, none, .mv (.tmp 13)⟩,
   ⟨some 6, none, .mv (.tmp 14)⟩])
 (.seq (.ops [⟨some 16, none, .mv (.tmp 0)⟩,
   ⟨some 17, none, .mv (.tmp 1)⟩,
   ⟨some 18, none, .call (.func 16) [(.tmp 16), (.tmp 17)]⟩,
   ⟨some 15, none, .mv (.tmp 18)⟩,
   ⟨some 19, none, .ext (.tmp 15) 0⟩,
   ⟨some 20, none, .ext (.tmp 15) 1⟩,
   ⟨some 7, none, .mv (.tmp 19)⟩,
   ⟨some 8, none, .mv (.tmp 20)⟩])
 (.seq (.seq (.ops [⟨some 21, none, .mv (.tmp 7)⟩,
    ⟨some 22, none, .mv (.tmp 5)⟩,
    ⟨some 23, none, .bin .neq 0 (.tmp 21) (.tmp 22)⟩,
    ⟨some 24, none, .mv (.tmp 23)⟩,
    ⟨some 25, some (24, false), .mv (.tmp 8)⟩,
    ⟨some 26, some (24, false), .mv (.tmp 6)⟩,
    ⟨some 27, some (24, false), .bin .neq 0 (.tmp 25) (.tmp 26)⟩,
    ⟨some 28, none, .pick (.tmp 24) (.const (.bool true)) (.tmp 27)⟩])
  (.cond (.tmp 28) (.seq (.ops [⟨some 4, none, .mv (.const (.bool false))⟩])
   .ret)
  .skip))
 (.seq (.ops [⟨some 4, none, .mv (.const (.bool true))⟩])
 .ret)))))
theorem C3_ok : Try.f3.body.bind (comp Try.prog) = some C3 := by kernel_rfl
theorem C3_res : compRs Try.prog Try.f3.results.toList = some [.tmp 4] := by kernel_rfl
theorem C3_nm : (Try.f3.name == "runtime.NumGoroutine") = false := by kernel_rfl
theorem C3_fn {a0 a1 : AV} {H : Heap} {Q : AV → Heap → Prop} (h : vc Try.prog C3 (vcEnd [.tmp 4] Q) H [a0, a1, .any, .any, .any, .any, .any, .any, .any, .any, .any, .any, .any, .any, .any, .any, .any, .any, .any, .any, .any, .any, .any, .any, .any, .any, .any, .any, .any]) : Runs Try.prog 3 [a0, a1] H Q :=
  @fn_go Try.prog mixed 3 Try.f3 C3 [.tmp 4] Try.func3 C3_ok C3_res C3_nm 29 Try.ntmps3 [a0, a1] [a0, a1, .any, .any, .any, .any, .any, .any, .any, .any, .any, .any, .any, .any, .any, .any, .any, .any, .any, .any, .any, .any, .any, .any, .any, .any, .any, .any, .any] H Q h 27 (by kernel_rfl) (by kernel_rfl)

/-- laws.szSecurity -/
def C62 : CC :=
 (.seq (.ops [⟨some 2, none, .box (.tmp 0)⟩,
   ⟨some 4, none, .mv (.const (.int .i64 0))⟩])
 (.seq (.ops [⟨some 5, none, .mv (.tmp 1)⟩,
   ⟨some 6, none, .fa 0 (.tmp 2)⟩,
   ⟨some 7, none, .load false 1 (.tmp 6)⟩,
   ⟨some 8, none, .len true (.tmp 7)⟩,
   ⟨some 9, none, .bin .sub 0 (.tmp 5) (.tmp 8)⟩,
   ⟨some 1, none, .mv (.tmp 9)⟩])
 (.seq (.seq (.ops [⟨some 10, none, .mv (.tmp 1)⟩,
    ⟨some 11, none, .bin .lss 0 (.tmp 10) (.const (.int .i64 0))⟩])
  (.cond (.tmp 11) (.seq (.ops [⟨some 4, none, .mv (.const (.int .i64 (-1)))⟩])
   .ret)
  .skip))
 (.seq (.ops [⟨some 12, none, .mv (.tmp 1)⟩,
   ⟨some 4, none, .mv (.tmp 12)⟩])
 .ret))))
theorem C62_ok : Try.f62.body.bind (comp Try.prog) = some C62 := by kernel_rfl
theorem C62_res : compRs Try.prog Try.f62.results.toList = some [.tmp 4] := by kernel_rfl
theorem C62_nm : (Try.f62.name == "runtime.NumGoroutine") = false := by kernel_rfl
theorem C62_fn {a0 a1 : AV} {H : Heap} {Q : AV → Heap → Prop} (h : vc Try.prog C62 (vcEnd [.tmp 4] Q) H [a0, a1, .any, .any, .any, .any, .any, .any, .any, .any, .any, .any, .any]) : Runs Try.prog 62 [a0, a1] H Q :=
  @fn_go Try.prog mixed 62 Try.f62 C62 [.tmp 4] Try.func62 C62_ok C62_res C62_nm 13 Try.ntmps62 [a0, a1] [a0, a1, .any, .any, .any, .any, .any, .any, .any, .any, .any, .any, .any] H Q h 11 (by kernel_rfl) (by kernel_rfl)

/-- laws.szSecurityS -/
def C17 : CC :=
 (.seq (.ops [⟨some 4, none, .mv (.const (.int .i64 0))⟩])
 (.seq (.ops [⟨some 6, none, .mv (.tmp 1)⟩,
   ⟨some 7, none, .mv (.tmp 0)⟩,
   ⟨some 8, none, .len false (.tmp 7)⟩,
   ⟨some 9, none, .bin .sub 0 (.tmp 6) (.tmp 8)⟩,
   ⟨some 1, none, .mv (.tmp 9)⟩])
 (.seq (.seq (.ops [⟨some 10, none, .mv (.tmp 1)⟩,
    ⟨some 11, none, .bin .lss 0 (.tmp 10) (.const (.int .i64 0))⟩])
  (.cond (.tmp 11) (.seq (.ops [⟨some 4, none, .mv (.const (.int .i64 (-1)))⟩])
   .ret)
  .skip))
 (.seq (.seq (.ops [⟨some 5, none, .mv (.const (.int .i64 0))⟩])
  (.block 0 (.loop (.seq (.seq (.ops [⟨some 12, none, .mv (.tmp 5)⟩,
       ⟨some 13, none, .mv (.tmp 0)⟩,
       ⟨some 14, none, .len false (.tmp 13)⟩,
       ⟨some 15, none, .bin .lss 0 (.tmp 12) (.tmp 14)⟩])
     (.cond (.tmp 15) .skip
     (.exit 0)))
    (.seq (.block 1 (.seq (.ops [⟨some 18, none, .mv (.tmp 0)⟩,
        ⟨some 19, none, .mv (.tmp 5)⟩,
        ⟨some 20, none, .ia 3 (.tmp 18) (.tmp 19)⟩,
        ⟨some 21, none, .load true 3 (.tmp 20)⟩,
        ⟨some 22, none, .mv (.tmp 1)⟩,
        ⟨some 23, none, .call (.func 62) [(.tmp 21), (.tmp 22)]⟩,
        ⟨some 1, none, .mv (.tmp 23)⟩])
      (.seq (.ops [⟨some 24, none, .mv (.tmp 1)⟩,
        ⟨some 25, none, .bin .lss 0 (.tmp 24) (.const (.int .i64 0))⟩])
      (.cond (.tmp 25) (.seq (.ops [⟨some 4, none, .mv (.const (.int .i64 (-1)))⟩])
       .ret)
      .skip))))
    (.ops [⟨some 16, none, .mv (.tmp 5)⟩,
     ⟨some 17, none, .bin .add 0 (.tmp 16) (.const (.int .i64 1))⟩,
     ⟨some 5, none, .mv (.tmp 17)⟩]))))))
 (.seq (.ops [⟨some 26, none, .mv (.tmp 1)⟩,
   ⟨some 4, none, .mv (.tmp 26)⟩])
 .ret)))))
theorem C17_ok : Try.f17.body.bind (comp Try.prog) = some C17 := by kernel_rfl
theorem C17_res : compRs Try.prog Try.f17.results.toList = some [.tmp 4] := by kernel_rfl
theorem C17_nm : (Try.f17.name == "runtime.NumGoroutine") = false := by kernel_rfl
theorem C17_fn {a0 a1 : AV} {H : Heap} {Q : AV → Heap → Prop} (h : vc Try.prog C17 (vcEnd [.tmp 4] Q) H [a0, a1, .any, .any, .any, .any, .any, .any, .any, .any, .any, .any, .any, .any, .any, .any, .any, .any, .any, .any, .any, .any, .any, .any, .any, .any, .any]) : Runs Try.prog 17 [a0, a1] H Q :=
  @fn_go Try.prog mixed 17 Try.f17 C17 [.tmp 4] Try.func17 C17_ok C17_res C17_nm 27 Try.ntmps17 [a0, a1] [a0, a1, .any, .any, .any, .any, .any, .any, .any, .any, .any, .any, .any, .any, .any, .any, .any, .any, .any, .any, .any, .any, .any, .any, .any, .any, .any] H Q h 25 (by kernel_rfl) (by kernel_rfl)

/-- spec.IsPartyCode -/
def C63 : CC :=
 (.seq (.ops [⟨some 2, none, .mv (.const (.bool false))⟩])
 (.seq (.seq (.ops [⟨some 3, none, .mv (.const (.int .i64 0))⟩])
  (.block 0 (.loop (.seq (.seq (.ops [⟨some 4, none, .mv (.tmp 3)⟩,
       ⟨some 5, none, .mv (.tmp 0)⟩,
       ⟨some 6, none, .len true (.tmp 5)⟩,
       ⟨some 7, none, .bin .lss 0 (.tmp 4) (.tmp 6)⟩])
     (.cond (.tmp 7) .skip
     (.exit 0)))
    (.seq (.block 1 (.seq (.ops [⟨some 10, none, .mv (.tmp 0)⟩,
        ⟨some 11, none, .mv (.tmp 3)⟩,
        ⟨some 12, none, .idx (.tmp 10) (.tmp 11)⟩,
        ⟨some 13, none, .bin .lss 0 (.tmp 12) (.const (.int .u8 97))⟩,
        ⟨some 14, none, .mv (.tmp 13)⟩,
        ⟨some 15, some (14, false), .mv (.tmp 0)⟩,
        ⟨some 16, some (14, false), .mv (.tmp 3)⟩,
        ⟨some 17, some (14, false), .idx (.tmp 15) (.tmp 16)⟩,
        ⟨some 18, some (14, false), .bin .gtr 0 (.tmp 17) (.const (.int .u8 122))⟩,
        ⟨some 19, none, .pick (.tmp 14) (.const (.bool true)) (.tmp 18)⟩])
      (.cond (.tmp 19) (.seq (.ops [⟨some 2, none, .mv (.const (.bool false))⟩])
       .ret)
      .skip)))
    (.ops [⟨some 8, none, .mv (.tmp 3)⟩,
     ⟨some 9, none, .bin .add 0 (.tmp 8) (.const (.int .i64 1))⟩,
     ⟨some 3, none, .mv (.tmp 9)⟩]))))))
 (.seq (.ops [⟨some 20, none, .mv (.tmp 0)⟩,
   ⟨some 21, none, .len true (.tmp 20)⟩,
   ⟨some 22, none, .call (.func 64) [(.tmp 21), (.const (.int .i64 1)), (.const (.int .i64 6))]⟩,
   ⟨some 2, none, .mv (.tmp 22)⟩])
 .ret)))
theorem C63_ok : Try.f63.body.bind (comp Try.prog) = some C63 := by kernel_rfl
theorem C63_res : compRs Try.prog Try.f63.results.toList = some [.tmp 2] := by kernel_rfl
theorem C63_nm : (Try.f63.name == "runtime.NumGoroutine") = false := by kernel_rfl
theorem C63_fn {a0 : AV} {H : Heap} {Q : AV → Heap → Prop} (h : vc Try.prog C63 (vcEnd [.tmp 2] Q) H [a0, .any, .any, .any, .any, .any, .any, .any, .any, .any, .any, .any, .any, .any, .any, .any, .any, .any, .any, .any, .any, .any, .any]) : Runs Try.prog 63 [a0] H Q :=
  @fn_go Try.prog mixed 63 Try.f63 C63 [.tmp 2] Try.func63 C63_ok C63_res C63_nm 23 Try.ntmps63 [a0] [a0, .any, .any, .any, .any, .any, .any, .any, .any, .any, .any, .any, .any, .any, .any, .any, .any, .any, .any, .any, .any, .any, .any] H Q h 22 (by kernel_rfl) (by kernel_rfl)

/-- spec.AreSecurities -/
def C18 : CC :=
 (.seq (.ops [⟨some 2, none, .mv (.const (.bool false))⟩])
 (.seq (.seq (.ops [⟨some 3, none, .mv (.const (.int .i64 0))⟩])
  (.block 0 (.loop (.seq (.seq (.ops [⟨some 5, none, .mv (.tmp 3)⟩,
       ⟨some 6, none, .mv (.tmp 0)⟩,
       ⟨some 7, none, .len false (.tmp 6)⟩,
       ⟨some 8, none, .bin .lss 0 (.tmp 5) (.tmp 7)⟩])
     (.cond (.tmp 8) .skip
     (.exit 0)))
    (.seq (.block 1 (.seq (.ops [⟨some 11, none, .mv (.tmp 0)⟩,
        ⟨some 12, none, .mv (.tmp 3)⟩,
        ⟨some 13, none, .ia 3 (.tmp 11) (.tmp 12)⟩,
        ⟨some 14, none, .load true 3 (.tmp 13)⟩,
        ⟨some 4, none, .alloc [.string ⟨#[]⟩, .int .i64 0, .int .i64 0]⟩,
        ⟨none, none, .store 3 (.tmp 4) (.tmp 14)⟩])
      (.seq (.ops [⟨some 15, none, .fa 0 (.tmp 4)⟩,
        ⟨some 16, none, .load false 1 (.tmp 15)⟩,
        ⟨some 17, none, .call (.func 63) [(.tmp 16)]⟩,
        ⟨some 18, none, .not (.tmp 17)⟩,
        ⟨some 19, none, .mv (.tmp 18)⟩,
        ⟨some 20, some (19, false), .fa 1 (.tmp 4)⟩,
        ⟨some 21, some (19, false), .load false 1 (.tmp 20)⟩,
        ⟨some 22, some (19, false), .call (.func 64) [(.tmp 21), (.const (.int .i64 0)), (.const (.int .i64 2))]⟩,
        ⟨some 23, some (19, false), .not (.tmp 22)⟩,
        ⟨some 24, none, .pick (.tmp 19) (.const (.bool true)) (.tmp 23)⟩,
        ⟨some 25, none, .mv (.tmp 24)⟩,
        ⟨some 26, some (25, false), .fa 2 (.tmp 4)⟩,
        ⟨some 27, some (25, false), .load false 1 (.tmp 26)⟩,
        ⟨some 28, some (25, false), .call (.func 58) [(.tmp 27)]⟩,
        ⟨some 29, some (25, false), .not (.tmp 28)⟩,
        ⟨some 30, none, .pick (.tmp 25) (.const (.bool true)) (.tmp 29)⟩])
      (.cond (.tmp 30) (.seq (.ops [⟨some 2, none, .mv (.const (.bool false))⟩])
       .ret)
      .skip))))
    (.ops [⟨some 9, none, .mv (.tmp 3)⟩,
     ⟨some 10, none, .bin .add 0 (.tmp 9) (.const (.int .i64 1))⟩,
     ⟨some 3, none, .mv (.tmp 10)⟩]))))))
 (.seq (.ops [⟨some 31, none, .mv (.tmp 0)⟩,
   ⟨some 32, none, .len false (.tmp 31)⟩,
   ⟨some 33, none, .bin .leq 0 (.tmp 32) (.const (.int .i64 15))⟩,
   ⟨some 2, none, .mv (.tmp 33)⟩])
 .ret)))
theorem C18_ok : Try.f18.body.bind (comp Try.prog) = some C18 := by kernel_rfl
theorem C18_res : compRs Try.prog Try.f18.results.toList = some [.tmp 2] := by kernel_rfl
theorem C18_nm : (Try.f18.name == "runtime.NumGoroutine") = false := by kernel_rfl
theorem C18_fn {a0 : AV} {H : Heap} {Q : AV → Heap → Prop} (h : vc Try.prog C18 (vcEnd [.tmp 2] Q) H [a0, .any, .any, .any, .any, .any, .any, .any, .any, .any, .any, .any, .any, .any, .any, .any, .any, .any, .any, .any, .any, .any, .any, .any, .any, .any, .any, .any, .any, .any, .any, .any, .any, .any]) : Runs Try.prog 18 [a0] H Q :=
  @fn_go Try.prog mixed 18 Try.f18 C18 [.tmp 2] Try.func18 C18_ok C18_res C18_nm 34 Try.ntmps18 [a0] [a0, .any, .any, .any, .any, .any, .any, .any, .any, .any, .any, .any, .any, .any, .any, .any, .any, .any, .any, .any, .any, .any, .any, .any, .any, .any, .any, .any, .any, .any, .any, .any, .any, .any] H Q h 33 (by kernel_rfl) (by kernel_rfl)

/-- laws.toSecurity -/
def C65 : CC :=
 (.seq (.ops [⟨some 1, none, .box (.tmp 0)⟩,
   ⟨some 2, none, .alloc [.string ⟨#[]⟩, .int .i64 0, .int .i64 0]⟩])
 (.seq (.ops [⟨some 3, none, .alloc [.string ⟨#[]⟩, .int .i64 0, .int .i64 0]⟩])
 (.seq (.ops [⟨some 4, none, .fa 0 (.tmp 1)⟩,
   ⟨some 5, none, .load false 1 (.tmp 4)⟩,
   ⟨some 6, none, .fa 0 (.tmp 3)⟩,
   ⟨none, none, .store 1 (.tmp 6) (.tmp 5)⟩])
 (.seq (.ops [⟨some 7, none, .fa 1 (.tmp 1)⟩,
   ⟨some 8, none, .load false 1 (.tmp 7)⟩,
   ⟨some 9, none, .fa 1 (.tmp 3)⟩,
   ⟨none, none, .store 1 (.tmp 9) (.tmp 8)⟩])
 (.seq (.ops [⟨some 10, none, .fa 2 (.tmp 1)⟩,
   ⟨some 11, none, .load false 1 (.tmp 10)⟩,
   ⟨some 12, none, .fa 2 (.tmp 3)⟩,
   ⟨none, none, .store 1 (.tmp 12) (.tmp 11)⟩])
 (.seq (.ops [⟨some 13, none, .load true 3 (.tmp 3)⟩,
   ⟨none, none, .store 3 (.tmp 2) (.tmp 13)⟩])
 .ret))))))
theorem C65_ok : Try.f65.body.bind (comp Try.prog) = some C65 := by kernel_rfl
theorem C65_res : compRs Try.prog Try.f65.results.toList = some [.cell true 3 2] := by kernel_rfl
theorem C65_nm : (Try.f65.name == "runtime.NumGoroutine") = false := by kernel_rfl
theorem C65_fn {a0 : AV} {H : Heap} {Q : AV → Heap → Prop} (h : vc Try.prog C65 (vcEnd [.cell true 3 2] Q) H [a0, .any, .any, .any, .any, .any, .any, .any, .any, .any, .any, .any, .any, .any]) : Runs Try.prog 65 [a0] H Q :=
  @fn_go Try.prog mixed 65 Try.f65 C65 [.cell true 3 2] Try.func65 C65_ok C65_res C65_nm 14 Try.ntmps65 [a0] [a0, .any, .any, .any, .any, .any, .any, .any, .any, .any, .any, .any, .any, .any] H Q h 13 (by kernel_rfl) (by kernel_rfl)

/-- laws.toSecurityS -/
def C19 : CC :=
 (.seq (.ops [⟨some 2, none, .mv (.const (.slice none 0 0))⟩])
 (.seq (.ops [⟨some 5, none, .mv (.tmp 0)⟩,
   ⟨some 6, none, .len false (.tmp 5)⟩,
   ⟨some 7, none, .mks [.string ⟨#[]⟩, .int .i64 0, .int .i64 0] 32 (.tmp 6)⟩,
   ⟨some 3, none, .mv (.tmp 7)⟩])
 (.seq (.seq (.ops [⟨some 4, none, .mv (.const (.int .i64 0))⟩])
  (.block 0 (.loop (.seq (.seq (.ops [⟨some 8, none, .mv (.tmp 4)⟩,
       ⟨some 9, none, .mv (.tmp 0)⟩,
       ⟨some 10, none, .len false (.tmp 9)⟩,
       ⟨some 11, none, .bin .lss 0 (.tmp 8) (.tmp 10)⟩])
     (.cond (.tmp 11) .skip
     (.exit 0)))
    (.seq (.block 1 (.ops [⟨some 14, none, .mv (.tmp 3)⟩,
       ⟨some 15, none, .mv (.tmp 4)⟩,
       ⟨some 16, none, .mv (.tmp 0)⟩,
       ⟨some 17, none, .mv (.tmp 4)⟩,
       ⟨some 18, none, .ia 3 (.tmp 16) (.tmp 17)⟩,
       ⟨some 19, none, .load true 3 (.tmp 18)⟩,
       ⟨some 20, none, .call (.func 65) [(.tmp 19)]⟩,
       ⟨some 21, none, .ia 3 (.tmp 14) (.tmp 15)⟩,
       ⟨none, none, .store 3 (.tmp 21) (.tmp 20)⟩]))
    (.ops [⟨some 12, none, .mv (.tmp 4)⟩,
     ⟨some 13, none, .bin .add 0 (.tmp 12) (.const (.int .i64 1))⟩,
     ⟨some 4, none, .mv (.tmp 13)⟩]))))))
 (.seq (.ops [⟨some 22, none, .mv (.tmp 3)⟩,
   ⟨some 2, none, .mv (.tmp 22)⟩])
 .ret))))
theorem C19_ok : Try.f19.body.bind (comp Try.prog) = some C19 := by kernel_rfl
theorem C19_res : compRs Try.prog Try.f19.results.toList = some [.tmp 2] := by kernel_rfl
theorem C19_nm : (Try.f19.name == "runtime.NumGoroutine") = false := by kernel_rfl
theorem C19_fn {a0 : AV} {H : Heap} {Q : AV → Heap → Prop} (h : vc Try.prog C19 (vcEnd [.tmp 2] Q) H [a0, .any, .any, .any, .any, .any, .any, .any, .any, .any, .any, .any, .any, .any, .any, .any, .any, .any, .any, .any, .any, .any, .any]) : Runs Try.prog 19 [a0] H Q :=
  @fn_go Try.prog mixed 19 Try.f19 C19 [.tmp 2] Try.func19 C19_ok C19_res C19_nm 23 Try.ntmps19 [a0] [a0, .any, .any, .any, .any, .any, .any, .any, .any, .any, .any, .any, .any, .any, .any, .any, .any, .any, .any, .any, .any, .any, .any] H Q h 22 (by kernel_rfl) (by kernel_rfl)

/-- slices.IndexFunc[[]impl.Security,impl.Security] -/
def C137 : CC :=
 (.seq (.ops [⟨some 4, none, .mv (.const (.int .i64 0))⟩])
 (.seq (.seq (.ops [⟨some 6, none, .mv (.tmp 0)⟩,
    ⟨some 7, none, .len false (.tmp 6)⟩,
    ⟨some 8, none, .mv (.const (.int .i64 0))⟩])
  (.block 0 (.loop (.seq (.ops [⟨some 9, none, .bin .lss 0 (.tmp 8) (.tmp 7)⟩])
    (.seq (.cond (.tmp 9) .skip
     (.exit 0))
    (.seq (.block 1 (.seq (.ops [⟨some 10, none, .mv (.tmp 8)⟩,
        ⟨some 5, none, .mv (.tmp 10)⟩])
      (.seq (.ops [⟨some 11, none, .mv (.tmp 1)⟩,
        ⟨some 12, none, .mv (.tmp 0)⟩,
        ⟨some 13, none, .mv (.tmp 5)⟩,
        ⟨some 14, none, .ia 3 (.tmp 12) (.tmp 13)⟩,
        ⟨some 15, none, .load true 3 (.tmp 14)⟩,
        ⟨some 16, none, .call (.tmp 11) [(.tmp 15)]⟩])
      (.cond (.tmp 16) (.seq (.ops [⟨some 17, none, .mv (.tmp 5)⟩,
         ⟨some 4, none, .mv (.tmp 17)⟩])
       .ret)
      .skip))))
    (.ops [⟨some 18, none, .bin .add 0 (.tmp 8) (.const (.int .i64 1))⟩,
     ⟨some 8, none, .mv (.tmp 18)⟩])))))))
 (.seq (.ops [⟨some 4, none, .mv (.const (.int .i64 (-1)))⟩])
 .ret)))
theorem C137_ok : Try.f137.body.bind (comp Try.prog) = some C137 := by kernel_rfl
theorem C137_res : compRs Try.prog Try.f137.results.toList = some [.tmp 4] := by kernel_rfl
theorem C137_nm : (Try.f137.name == "runtime.NumGoroutine") = false := by kernel_rfl
theorem C137_fn {a0 a1 : AV} {H : Heap} {Q : AV → Heap → Prop} (h : vc Try.prog C137 (vcEnd [.tmp 4] Q) H [a0, a1, .any, .any, .any, .any, .any, .any, .any, .any, .any, .any, .any, .any, .any, .any, .any, .any, .any]) : Runs Try.prog 137 [a0, a1] H Q :=
  @fn_go Try.prog mixed 137 Try.f137 C137 [.tmp 4] Try.func137 C137_ok C137_res C137_nm 19 Try.ntmps137 [a0, a1] [a0, a1, .any, .any, .any, .any, .any, .any, .any, .any, .any, .any, .any, .any, .any, .any, .any, .any, .any] H Q h 17 (by kernel_rfl) (by kernel_rfl)

/-- slices.ContainsFunc[[]impl.Security,impl.Security] -/
def C119 : CC :=
 (.seq (.ops [⟨some 4, none, .mv (.const (.bool false))⟩])
 (.seq (.ops [⟨some 5, none, .mv (.tmp 0)⟩,
   ⟨some 6, none, .mv (.tmp 1)⟩,
   ⟨some 7, none, .call (.func 137) [(.tmp 5), (.tmp 6)]⟩,
   ⟨some 8, none, .bin .geq 0 (.tmp 7) (.const (.int .i64 0))⟩,
   ⟨some 4, none, .mv (.tmp 8)⟩])
 .ret))
theorem C119_ok : Try.f119.body.bind (comp Try.prog) = some C119 := by kernel_rfl
theorem C119_res : compRs Try.prog Try.f119.results.toList = some [.tmp 4] := by kernel_rfl
theorem C119_nm : (Try.f119.name == "runtime.NumGoroutine") = false := by kernel_rfl
theorem C119_fn {a0 a1 : AV} {H : Heap} {Q : AV → Heap → Prop} (h : vc Try.prog C119 (vcEnd [.tmp 4] Q) H [a0, a1, .any, .any, .any, .any, .any, .any, .any]) : Runs Try.prog 119 [a0, a1] H Q :=
  @fn_go Try.prog mixed 119 Try.f119 C119 [.tmp 4] Try.func119 C119_ok C119_res C119_nm 9 Try.ntmps119 [a0, a1] [a0, a1, .any, .any, .any, .any, .any, .any, .any] H Q h 7 (by kernel_rfl) (by kernel_rfl)

/-- impl.all[impl.Security]$1 -/
def C120 : CC :=
 (.seq (.ops [⟨some 2, none, .box (.tmp 0)⟩,
   ⟨some 3, none, .mv (.const (.bool false))⟩])
 (.seq (.ops [⟨some 4, none, .load false 1 (.tmp 1)⟩,
   ⟨some 5, none, .load true 3 (.tmp 2)⟩,
   ⟨some 6, none, .call (.tmp 4) [(.tmp 5)]⟩,
   ⟨some 7, none, .not (.tmp 6)⟩,
   ⟨some 3, none, .mv (.tmp 7)⟩])
 .ret))
theorem C120_ok : Try.f120.body.bind (comp Try.prog) = some C120 := by kernel_rfl
theorem C120_res : compRs Try.prog Try.f120.results.toList = some [.tmp 3] := by kernel_rfl
theorem C120_nm : (Try.f120.name == "runtime.NumGoroutine") = false := by kernel_rfl
theorem C120_fn {a0 a1 : AV} {H : Heap} {Q : AV → Heap → Prop} (h : vc Try.prog C120 (vcEnd [.tmp 3] Q) H [a0, a1, .any, .any, .any, .any, .any, .any]) : Runs Try.prog 120 [a0, a1] H Q :=
  @fn_go Try.prog mixed 120 Try.f120 C120 [.tmp 3] Try.func120 C120_ok C120_res C120_nm 8 Try.ntmps120 [a0, a1] [a0, a1, .any, .any, .any, .any, .any, .any] H Q h 6 (by kernel_rfl) (by kernel_rfl)

/-- impl.all[impl.Security] -/
def C66 : CC :=
 (.seq (.ops [⟨some 3, none, .box (.tmp 1)⟩,
   ⟨some 4, none, .mv (.const (.bool false))⟩])
 (.seq (.ops [⟨some 5, none, .mv (.tmp 0)⟩,
   ⟨some 6, none, .mkf 120 [(.tmp 3)]⟩,
   ⟨some 7, none, .call (.func 119) [(.tmp 5), (.tmp 6)]⟩,
   ⟨some 8, none, .not (.tmp 7)⟩,
   ⟨some 4, none, .mv (.tmp 8)⟩])
 .ret))
theorem C66_ok : Try.f66.body.bind (comp Try.prog) = some C66 := by kernel_rfl
theorem C66_res : compRs Try.prog Try.f66.results.toList = some [.tmp 4] := by kernel_rfl
theorem C66_nm : (Try.f66.name == "runtime.NumGoroutine") = false := by kernel_rfl
theorem C66_fn {a0 a1 : AV} {H : Heap} {Q : AV → Heap → Prop} (h : vc Try.prog C66 (vcEnd [.tmp 4] Q) H [a0, a1, .any, .any, .any, .any, .any, .any, .any]) : Runs Try.prog 66 [a0, a1] H Q :=
  @fn_go Try.prog mixed 66 Try.f66 C66 [.tmp 4] Try.func66 C66_ok C66_res C66_nm 9 Try.ntmps66 [a0, a1] [a0, a1, .any, .any, .any, .any, .any, .any, .any] H Q h 7 (by kernel_rfl) (by kernel_rfl)

/-- impl.spelled -/
def C121 : CC :=
 (.seq (.ops [⟨some 10, none, .mv (.const (.bool false))⟩])
 (.seq (.seq (.ops [⟨some 12, none, .mv (.tmp 0)⟩,
    ⟨some 13, none, .len true (.tmp 12)⟩,
    ⟨some 14, none, .mv (.const (.int .i64 0))⟩])
  (.block 0 (.loop (.seq (.ops [⟨some 15, none, .bin .lss 0 (.tmp 14) (.tmp 13)⟩])
    (.seq (.cond (.tmp 15) .skip
     (.exit 0))
    (.seq (.block 1 (.seq (.ops [⟨some 16, none, .mv (.tmp 14)⟩,
        ⟨some 11, none, .mv (.tmp 16)⟩])
      (.seq (.ops [⟨some 17, none, .mv (.tmp 0)⟩,
        ⟨some 18, none, .mv (.tmp 11)⟩,
        ⟨some 19, none, .idx (.tmp 17) (.tmp 18)⟩,
        ⟨some 20, none, .mv (.tmp 3)⟩,
        ⟨some 21, none, .bin .lss 0 (.tmp 19) (.tmp 20)⟩,
        ⟨some 22, none, .mv (.tmp 21)⟩,
        ⟨some 23, some (22, false), .mv (.tmp 0)⟩,
        ⟨some 24, some (22, false), .mv (.tmp 11)⟩,
        ⟨some 25, some (22, false), .idx (.tmp 23) (.tmp 24)⟩,
        ⟨some 26, some (22, false), .mv (.tmp 4)⟩,
        ⟨some 27, some (22, false), .bin .gtr 0 (.tmp 25) (.tmp 26)⟩,
        ⟨some 28, none, .pick (.tmp 22) (.const (.bool true)) (.tmp 27)⟩])
      (.cond (.tmp 28) (.seq (.ops [⟨some 10, none, .mv (.const (.bool false))⟩])
       .ret)
      .skip))))
    (.ops [⟨some 29, none, .bin .add 0 (.tmp 14) (.const (.int .i64 1))⟩,
     ⟨some 14, none, .mv (.tmp 29)⟩])))))))
 (.seq (.ops [⟨some 30, none, .mv (.tmp 0)⟩,
   ⟨some 31, none, .len true (.tmp 30)⟩,
   ⟨some 32, none, .mv (.tmp 1)⟩,
   ⟨some 33, none, .bin .geq 0 (.tmp 31) (.tmp 32)⟩,
   ⟨some 34, none, .mv (.tmp 33)⟩,
   ⟨some 35, some (34, true), .mv (.tmp 0)⟩,
   ⟨some 36, some (34, true), .len true (.tmp 35)⟩,
   ⟨some 37, some (34, true), .mv (.tmp 2)⟩,
   ⟨some 38, some (34, true), .bin .leq 0 (.tmp 36) (.tmp 37)⟩,
   ⟨some 39, none, .pick (.tmp 34) (.tmp 38) (.const (.bool false))⟩,
   ⟨some 10, none, .mv (.tmp 39)⟩])
 .ret)))
theorem C121_ok : Try.f121.body.bind (comp Try.prog) = some C121 := by kernel_rfl
theorem C121_res : compRs Try.prog Try.f121.results.toList = some [.tmp 10] := by kernel_rfl
theorem C121_nm : (Try.f121.name == "runtime.NumGoroutine") = false := by kernel_rfl
theorem C121_fn {a0 a1 a2 a3 a4 : AV} {H : Heap} {Q : AV → Heap → Prop} (h : vc Try.prog C121 (vcEnd [.tmp 10] Q) H [a0, a1, a2, a3, a4, .any, .any, .any, .any, .any, .any, .any, .any, .any, .any, .any, .any, .any, .any, .any, .any, .any, .any, .any, .any, .any, .any, .any, .any, .any, .any, .any, .any, .any, .any, .any, .any, .any, .any, .any]) : Runs Try.prog 121 [a0, a1, a2, a3, a4] H Q :=
  @fn_go Try.prog mixed 121 Try.f121 C121 [.tmp 10] Try.func121 C121_ok C121_res C121_nm 40 Try.ntmps121 [a0, a1, a2, a3, a4] [a0, a1, a2, a3, a4, .any, .any, .any, .any, .any, .any, .any, .any, .any, .any, .any, .any, .any, .any, .any, .any, .any, .any, .any, .any, .any, .any, .any, .any, .any, .any, .any, .any, .any, .any, .any, .any, .any, .any, .any] H Q h 35 (by kernel_rfl) (by kernel_rfl)

/-- impl.IsPartyCode -/
def C68 : CC :=
 (.seq (.ops [⟨some 2, none, .mv (.const (.bool false))⟩])
 (.seq (.ops [⟨some 3, none, .mv (.tmp 0)⟩,
   ⟨some 4, none, .call (.func 121) [(.tmp 3), (.const (.int .i64 1)), (.const (.int .i64 6)), (.const (.int .u8 97)), (.const (.int .u8 122))]⟩,
   ⟨some 2, none, .mv (.tmp 4)⟩])
 .ret))
theorem C68_ok : Try.f68.body.bind (comp Try.prog) = some C68 := by kernel_rfl
theorem C68_res : compRs Try.prog Try.f68.results.toList = some [.tmp 2] := by kernel_rfl
theorem C68_nm : (Try.f68.name == "runtime.NumGoroutine") = false := by kernel_rfl
theorem C68_fn {a0 : AV} {H : Heap} {Q : AV → Heap → Prop} (h : vc Try.prog C68 (vcEnd [.tmp 2] Q) H [a0, .any, .any, .any, .any]) : Runs Try.prog 68 [a0] H Q :=
  @fn_go Try.prog mixed 68 Try.f68 C68 [.tmp 2] Try.func68 C68_ok C68_res C68_nm 5 Try.ntmps68 [a0] [a0, .any, .any, .any, .any] H Q h 4 (by kernel_rfl) (by kernel_rfl)

/-- impl.AreSecurities$1 -/
def C67 : CC :=
 (.seq (.ops [⟨some 1, none, .box (.tmp 0)⟩,
   ⟨some 2, none, .mv (.const (.bool false))⟩])
 (.seq (.ops [⟨some 3, none, .fa 0 (.tmp 1)⟩,
   ⟨some 4, none, .load false 1 (.tmp 3)⟩,
   ⟨some 5, none, .call (.func 68) [(.tmp 4)]⟩,
   ⟨some 6, none, .mv (.tmp 5)⟩,
   ⟨some 7, some (6, true), .fa 1 (.tmp 1)⟩,
   ⟨some 8, some (6, true), .load false 1 (.tmp 7)⟩,
   ⟨some 9, some (6, true), .call (.func 69) [(.tmp 8), (.const (.int .i64 0)), (.const (.int .i64 2))]⟩,
   ⟨some 10, none, .pick (.tmp 6) (.tmp 9) (.const (.bool false))⟩,
   ⟨some 11, none, .mv (.tmp 10)⟩,
   ⟨some 12, some (11, true), .fa 2 (.tmp 1)⟩,
   ⟨some 13, some (11, true), .load false 1 (.tmp 12)⟩,
   ⟨some 14, some (11, true), .call (.func 60) [(.tmp 13)]⟩,
   ⟨some 15, none, .pick (.tmp 11) (.tmp 14) (.const (.bool false))⟩,
   ⟨some 2, none, .mv (.tmp 15)⟩])
 .ret))
theorem C67_ok : Try.f67.body.bind (comp Try.prog) = some C67 := by kernel_rfl
theorem C67_res : compRs Try.prog Try.f67.results.toList = some [.tmp 2] := by kernel_rfl
theorem C67_nm : (Try.f67.name == "runtime.NumGoroutine") = false := by kernel_rfl
theorem C67_fn {a0 : AV} {H : Heap} {Q : AV → Heap → Prop} (h : vc Try.prog C67 (vcEnd [.tmp 2] Q) H [a0, .any, .any, .any, .any, .any, .any, .any, .any, .any, .any, .any, .any, .any, .any, .any]) : Runs Try.prog 67 [a0] H Q :=
  @fn_go Try.prog mixed 67 Try.f67 C67 [.tmp 2] Try.func67 C67_ok C67_res C67_nm 16 Try.ntmps67 [a0] [a0, .any, .any, .any, .any, .any, .any, .any, .any, .any, .any, .any, .any, .any, .any, .any] H Q h 15 (by kernel_rfl) (by kernel_rfl)

/-- impl.AreSecurities -/
def C20 : CC :=
 (.seq (.ops [⟨some 2, none, .mv (.const (.bool false))⟩])
 (.seq (.ops [⟨some 3, none, .mv (.tmp 0)⟩,
   ⟨some 4, none, .len false (.tmp 3)⟩,
   ⟨some 5, none, .bin .leq 0 (.tmp 4) (.const (.int .i64 15))⟩,
   ⟨some 6, none, .mv (.tmp 5)⟩,
   ⟨some 7, some (6, true), .mv (.tmp 0)⟩,
   ⟨some 8, some (6, true), .call (.func 66) [(.tmp 7), (.func 67)]⟩,
   ⟨some 9, none, .pick (.tmp 6) (.tmp 8) (.const (.bool false))⟩,
   ⟨some 2, none, .mv (.tmp 9)⟩])
 .ret))
theorem C20_ok : Try.f20.body.bind (comp Try.prog) = some C20 := by kernel_rfl
theorem C20_res : compRs Try.prog Try.f20.results.toList = some [.tmp 2] := by kernel_rfl
theorem C20_nm : (Try.f20.name == "runtime.NumGoroutine") = false := by kernel_rfl
theorem C20_fn {a0 : AV} {H : Heap} {Q : AV → Heap → Prop} (h : vc Try.prog C20 (vcEnd [.tmp 2] Q) H [a0, .any, .any, .any, .any, .any, .any, .any, .any, .any]) : Runs Try.prog 20 [a0] H Q :=
  @fn_go Try.prog mixed 20 Try.f20 C20 [.tmp 2] Try.func20 C20_ok C20_res C20_nm 10 Try.ntmps20 [a0] [a0, .any, .any, .any, .any, .any, .any, .any, .any, .any] H Q h 9 (by kernel_rfl) (by kernel_rfl)

/-- laws.eqSecurity -/
def C70 : CC :=
 (.seq (.ops [⟨some 2, none, .box (.tmp 0)⟩,
   ⟨some 3, none, .box (.tmp 1)⟩,
   ⟨some 4, none, .mv (.const (.bool false))⟩])
 (.seq (.seq (.ops [⟨some 5, none, .fa 0 (.tmp 2)⟩,
    ⟨some 6, none, .load false 1 (.tmp 5)⟩,
    ⟨some 7, none, .fa 0 (.tmp 3)⟩,
    ⟨some 8, none, .load false 1 (.tmp 7)⟩,
    ⟨some 9, none, .bin .neq 0 (.tmp 6) (.tmp 8)⟩])
  (.cond (.tmp 9) (.seq (.ops [⟨some 4, none, .mv (.const (.bool false))⟩])
   .ret)
  .skip))
 (.seq (.seq (.ops [⟨some 10, none, .fa 1 (.tmp 2)⟩,
    ⟨some 11, none, .load false 1 (.tmp 10)⟩,
    ⟨some 12, none, .fa 1 (.tmp 3)⟩,
    ⟨some 13, none, .load false 1 (.tmp 12)⟩,
    ⟨some 14, none, .bin .neq 0 (.tmp 11) (.tmp 13)⟩])
  (.cond (.tmp 14) (.seq (.ops [⟨some 4, none, .mv (.const (.bool false))⟩])
   .ret)
  .skip))
 (.seq (.seq (.ops [⟨some 15, none, .fa 2 (.tmp 2)⟩,
    ⟨some 16, none, .load false 1 (.tmp 15)⟩,
    ⟨some 17, none, .fa 2 (.tmp 3)⟩,
    ⟨some 18, none, .load false 1 (.tmp 17)⟩,
    ⟨some 19, none, .bin .neq 0 (.tmp 16) (.tmp 18)⟩])
  (.cond (.tmp 19) (.seq (.ops [⟨some 4, none, .mv (.const (.bool false))⟩])
   .ret)
  .skip))
 (.seq (.ops [⟨some 4, none, .mv (.const (.bool true))⟩])
 .ret)))))
theorem C70_ok : Try.f70.body.bind (comp Try.prog) = some C70 := by kernel_rfl
theorem C70_res : compRs Try.prog Try.f70.results.toList = some [.tmp 4] := by kernel_rfl
theorem C70_nm : (Try.f70.name == "runtime.NumGoroutine") = false := by kernel_rfl
theorem C70_fn {a0 a1 : AV} {H : Heap} {Q : AV → Heap → Prop} (h : vc Try.prog C70 (vcEnd [.tmp 4] Q) H [a0, a1, .any, .any, .any, .any, .any, .any, .any, .any, .any, .any, .any, .any, .any, .any, .any, .any, .any, .any]) : Runs Try.prog 70 [a0, a1] H Q :=
  @fn_go Try.prog mixed 70 Try.f70 C70 [.tmp 4] Try.func70 C70_ok C70_res C70_nm 20 Try.ntmps70 [a0, a1] [a0, a1, .any, .any, .any, .any, .any, .any, .any, .any, .any, .any, .any, .any, .any, .any, .any, .any, .any, .any] H Q h 18 (by kernel_rfl) (by kernel_rfl)

/-- laws.eqSecurityS -/
def C21 : CC :=
 (.seq (.ops [⟨some 4, none, .mv (.const (.bool false))⟩])
 (.seq (.seq (.ops [⟨some 6, none, .mv (.tmp 0)⟩,
    ⟨some 7, none, .len false (.tmp 6)⟩,
    ⟨some 8, none, .mv (.tmp 1)⟩,
    ⟨some 9, none, .len false (.tmp 8)⟩,
    ⟨some 10, none, .bin .neq 0 (.tmp 7) (.tmp 9)⟩])
  (.cond (.tmp 10) (.seq (.ops [⟨some 4, none, .mv (.const (.bool false))⟩])
   .ret)
  .skip))
 (.seq (.seq (.ops [⟨some 5, none, .mv (.const (.int .i64 0))⟩])
  (.block 0 (.loop (.seq (.seq (.ops [⟨some 11, none, .mv (.tmp 5)⟩,
       ⟨some 12, none, .mv (.tmp 0)⟩,
       ⟨some 13, none, .len false (.tmp 12)⟩,
       ⟨some 14, none, .bin .lss 0 (.tmp 11) (.tmp 13)⟩])
     (.cond (.tmp 14) .skip
     (.exit 0)))
    (.seq (.block 1 (.seq (.draw 10 [⟨some 17, none, .mv (.tmp 0)⟩,
        ⟨some 18, none, .mv (.tmp 5)⟩,
        ⟨some 19, none, .ia 3 (.tmp 17) (.tmp 18)⟩,
        ⟨some 20, none, .load true 3 (.tmp 19)⟩,
        ⟨some 21, none, .mv (.tmp 1)⟩,
        ⟨some 22, none, .mv (.tmp 5)⟩,
        ⟨some 23, none, .ia 3 (.tmp 21) (.tmp 22)⟩,
        ⟨some 24, none, .load true 3 (.tmp 23)⟩,
        ⟨some 25, none, .call (.func 70) [(.tmp 20), (.tmp 24)]⟩,
        ⟨some 26, none, .not (.tmp 25)⟩])
      (.cond (.tmp 26) (.seq (.ops [⟨some 4, none, .mv (.const (.bool false))⟩])
       .ret)
      .skip)))
    (.ops [⟨some 15, none, .mv (.tmp 5)⟩,
     ⟨some 16, none, .bin .add 0 (.tmp 15) (.const (.int .i64 1))⟩,
     ⟨some 5, none, .mv (.tmp 16)⟩]))))))
 (.seq (.ops [⟨some 4, none, .mv (.const (.bool true))⟩])
 .ret))))
theorem C21_ok : Try.f21.body.bind (comp Try.prog) = some C21 := by kernel_rfl
theorem C21_res : compRs Try.prog Try.f21.results.toList = some [.tmp 4] := by kernel_rfl
theorem C21_nm : (Try.f21.name == "runtime.NumGoroutine") = false := by kernel_rfl
theorem C21_fn {a0 a1 : AV} {H : Heap} {Q : AV → Heap → Prop} (h : vc Try.prog C21 (vcEnd [.tmp 4] Q) H [a0, a1, .any, .any, .any, .any, .any, .any, .any, .any, .any, .any, .any, .any, .any, .any, .any, .any, .any, .any, .any, .any, .any, .any, .any, .any, .any]) : Runs Try.prog 21 [a0, a1] H Q :=
  @fn_go Try.prog mixed 21 Try.f21 C21 [.tmp 4] Try.func21 C21_ok C21_res C21_nm 27 Try.ntmps21 [a0, a1] [a0, a1, .any, .any, .any, .any, .any, .any, .any, .any, .any, .any, .any, .any, .any, .any, .any, .any, .any, .any, .any, .any, .any, .any, .any, .any, .any] H Q h 25 (by kernel_rfl) (by kernel_rfl)

/-- laws.FnExactAreSecurities -/
def C4 : CC :=
 (.seq (.ops [⟨some 2, none, .mv (.const (.bool false))⟩])
 (.seq (.ops [⟨some 3, none, .mv (.const (.int .i64 1048576))⟩])
 (.seq (.ops [⟨some 7, none, .mv (.tmp 0)⟩,
   ⟨some 8, none, .mv (.tmp 3)⟩,
   ⟨some 9, none, .call (.func 17) [(.tmp 7), (.tmp 8)]⟩,
   ⟨some 3, none, .mv (.tmp 9)⟩])
 (.seq (.seq (.ops [⟨some 10, none, .mv (.tmp 3)⟩,
    ⟨some 11, none, .bin .lss 0 (.tmp 10) (.const (.int .i64 0))⟩])
  (.cond (.tmp 11) (.seq (.ops [⟨some 2, none, .mv (.const (.bool true))⟩])
   .ret)
  .skip))
 (.seq (.ops [⟨some 12, none, .mv (.tmp 0)⟩,
   ⟨some 13, none, .call (.func 19) [(.tmp 12)]⟩,
   ⟨some 14, none, .call (.func 18) [(.tmp 13)]⟩,
   ⟨some 4, none, .mv (.tmp 14)⟩])
 (.seq (.ops [⟨some 15, none, .mv (.tmp 0)⟩,
   ⟨some 16, none, .call (.func 19) [(.tmp 15)]⟩,
   ⟨some 5, none, .mv (.tmp 16)⟩])
 (.seq (.ops [⟨some 17, none, .mv (.tmp 5)⟩,
   ⟨some 18, none, .call (.func 20) [(.tmp 17)]⟩,
   ⟨some 6, none, .mv (.tmp 18)⟩])
 (.seq (.seq (.ops [⟨some 19, none, .mv (.tmp 6)⟩,
    ⟨some 20, none, .mv (.tmp 4)⟩,
    ⟨some 21, none, .bin .neq 1 (.tmp 19) (.tmp 20)⟩])
  (.cond (.tmp 21) (.seq (.ops [⟨some 2, none, .mv (.const (.bool false))⟩])
   .ret)
  .skip))
 (.seq (.seq (.ops [⟨some 22, none, .mv (.tmp 5)⟩,
    ⟨some 23, none, .mv (.tmp 0)⟩,
    ⟨some 24, none, .call (.func 19) [(.tmp 23)]⟩,
    ⟨some 25, none, .call (.func 21) [(.tmp 22), (.tmp 24)]⟩,
    ⟨some 26, none, .not (.tmp 25)⟩])
  (.cond (.tmp 26) (.seq (.ops [⟨some 2, none, .mv (.const (.bool false))⟩])
   .ret)
  .skip))
 (.seq (.ops [⟨some 2, none, .mv (.const (.bool true))⟩])
 .ret))))))))))
theorem C4_ok : Try.f4.body.bind (comp Try.prog) = some C4 := by kernel_rfl
theorem C4_res : compRs Try.prog Try.f4.results.toList = some [.tmp 2] := by kernel_rfl
theorem C4_nm : (Try.f4.name == "runtime.NumGoroutine") = false := by kernel_rfl
theorem C4_fn {a0 : AV} {H : Heap} {Q : AV → Heap → Prop} (h : vc Try.prog C4 (vcEnd [.tmp 2] Q) H [a0, .any, .any, .any, .any, .any, .any, .any, .any, .any, .any, .any, .any, .any, .any, .any, .any, .any, .any, .any, .any, .any, .any, .any, .any, .any, .any]) : Runs Try.prog 4 [a0] H Q :=
  @fn_go Try.prog mixed 4 Try.f4 C4 [.tmp 2] Try.func4 C4_ok C4_res C4_nm 27 Try.ntmps4 [a0] [a0, .any, .any, .any, .any, .any, .any, .any, .any, .any, .any, .any, .any, .any, .any, .any, .any, .any, .any, .any, .any, .any, .any, .any, .any, .any, .any] H Q h 26 (by kernel_rfl) (by kernel_rfl)

/-- laws.szDemand -/
def C71 : CC :=
 (.seq (.ops [⟨some 2, none, .box (.tmp 0)⟩,
   ⟨some 4, none, .mv (.const (.int .i64 0))⟩])
 (.seq (.ops [⟨some 5, none, .mv (.tmp 1)⟩,
   ⟨some 6, none, .fa 0 (.tmp 2)⟩,
   ⟨some 7, none, .load false 1 (.tmp 6)⟩,
   ⟨some 8, none, .len true (.tmp 7)⟩,
   ⟨some 9, none, .bin .sub 0 (.tmp 5) (.tmp 8)⟩,
   ⟨some 1, none, .mv (.tmp 9)⟩])
 (.seq (.seq (.ops [⟨some 10, none, .mv (.tmp 1)⟩,
    ⟨some 11, none, .bin .lss 0 (.tmp 10) (.const (.int .i64 0))⟩])
  (.cond (.tmp 11) (.seq (.ops [⟨some 4, none, .mv (.const (.int .i64 (-1)))⟩])
   .ret)
  .skip))
 (.seq (.ops [⟨some 12, none, .mv (.tmp 1)⟩,
   ⟨some 4, none, .mv (.tmp 12)⟩])
 .ret))))
theorem C71_ok : Try.f71.body.bind (comp Try.prog) = some C71 := by kernel_rfl
theorem C71_res : compRs Try.prog Try.f71.results.toList = some [.tmp 4] := by kernel_rfl
theorem C71_nm : (Try.f71.name == "runtime.NumGoroutine") = false := by kernel_rfl
theorem C71_fn {a0 a1 : AV} {H : Heap} {Q : AV → Heap → Prop} (h : vc Try.prog C71 (vcEnd [.tmp 4] Q) H [a0, a1, .any, .any, .any, .any, .any, .any, .any, .any, .any, .any, .any]) : Runs Try.prog 71 [a0, a1] H Q :=
  @fn_go Try.prog mixed 71 Try.f71 C71 [.tmp 4] Try.func71 C71_ok C71_res C71_nm 13 Try.ntmps71 [a0, a1] [a0, a1, .any, .any, .any, .any, .any, .any, .any, .any, .any, .any, .any] H Q h 11 (by kernel_rfl) (by kernel_rfl)

/-- laws.szDemandS -/
def C22 : CC :=
 (.seq (.ops [⟨some 4, none, .mv (.const (.int .i64 0))⟩])
 (.seq (.ops [⟨some 6, none, .mv (.tmp 1)⟩,
   ⟨some 7, none, .mv (.tmp 0)⟩,
   ⟨some 8, none, .len false (.tmp 7)⟩,
   ⟨some 9, none, .bin .sub 0 (.tmp 6) (.tmp 8)⟩,
   ⟨some 1, none, .mv (.tmp 9)⟩])
 (.seq (.seq (.ops [⟨some 10, none, .mv (.tmp 1)⟩,
    ⟨some 11, none, .bin .lss 0 (.tmp 10) (.const (.int .i64 0))⟩])
  (.cond (.tmp 11) (.seq (.ops [⟨some 4, none, .mv (.const (.int .i64 (-1)))⟩])
   .ret)
  .skip))
 (.seq (.seq (.ops [⟨some 5, none, .mv (.const (.int .i64 0))⟩])
  (.block 0 (.loop (.seq (.seq (.ops [⟨some 12, none, .mv (.tmp 5)⟩,
       ⟨some 13, none, .mv (.tmp 0)⟩,
       ⟨some 14, none, .len false (.tmp 13)⟩,
       ⟨some 15, none, .bin .lss 0 (.tmp 12) (.tmp 14)⟩])
     (.cond (.tmp 15) .skip
     (.exit 0)))
    (.seq (.block 1 (.seq (.ops [⟨some 18, none, .mv (.tmp 0)⟩,
        ⟨some 19, none, .mv (.tmp 5)⟩,
        ⟨some 20, none, .ia 3 (.tmp 18) (.tmp 19)⟩,
        ⟨some 21, none, .load true 3 (.tmp 20)⟩,
        ⟨some 22, none, .mv (.tmp 1)⟩,
        ⟨some 23, none, .call (.func 71) [(.tmp 21), (.tmp 22)]⟩,
        ⟨some 1, none, .mv (.tmp 23)⟩])
      (.seq (.ops [⟨some 24, none, .mv (.tmp 1)⟩,
        ⟨some 25, none, .bin .lss 0 (.tmp 24) (.const (.int .i64 0))⟩])
      (.cond (.tmp 25) (.seq (.ops [⟨some 4, none, .mv (.const (.int .i64 (-1)))⟩])
       .ret)
      .skip))))
    (.ops [⟨some 16, none, .mv (.tmp 5)⟩,
     ⟨some 17, none, .bin .add 0 (.tmp 16) (.const (.int .i64 1))⟩,
     ⟨some 5, none, .mv (.tmp 17)⟩]))))))
 (.seq (.ops [⟨some 26, none, .mv (.tmp 1)⟩,
   ⟨some 4, none, .mv (.tmp 26)⟩])
 .ret)))))
theorem C22_ok : Try.f22.body.bind (comp Try.prog) = some C22 := by kernel_rfl
theorem C22_res : compRs Try.prog Try.f22.results.toList = some [.tmp 4] := by kernel_rfl
theorem C22_nm : (Try.f22.name == "runtime.NumGoroutine") = false := by kernel_rfl
theorem C22_fn {a0 a1 : AV} {H : Heap} {Q : AV → Heap → Prop} (h : vc Try.prog C22 (vcEnd [.tmp 4] Q) H [a0, a1, .any, .any, .any, .any, .any, .any, .any, .any, .any, .any, .any, .any, .any, .any, .any, .any, .any, .any, .any, .any, .any, .any, .any, .any, .any]) : Runs Try.prog 22 [a0, a1] H Q :=
  @fn_go Try.prog mixed 22 Try.f22 C22 [.tmp 4] Try.func22 C22_ok C22_res C22_nm 27 Try.ntmps22 [a0, a1] [a0, a1, .any, .any, .any, .any, .any, .any, .any, .any, .any, .any, .any, .any, .any, .any, .any, .any, .any, .any, .any, .any, .any, .any, .any, .any, .any] H Q h 25 (by kernel_rfl) (by kernel_rfl)

/-- spec.l23Rank -/
def C72 : CC :=
 (.seq (.ops [⟨some 2, none, .mv (.const (.bool false))⟩])
 (.seq (.ops [⟨some 3, none, .mv (.tmp 0)⟩,
   ⟨some 4, none, .call (.func 64) [(.tmp 3), (.const (.int .i64 1)), (.const (.int .i64 5))]⟩,
   ⟨some 2, none, .mv (.tmp 4)⟩])
 .ret))
theorem C72_ok : Try.f72.body.bind (comp Try.prog) = some C72 := by kernel_rfl
theorem C72_res : compRs Try.prog Try.f72.results.toList = some [.tmp 2] := by kernel_rfl
theorem C72_nm : (Try.f72.name == "runtime.NumGoroutine") = false := by kernel_rfl
theorem C72_fn {a0 : AV} {H : Heap} {Q : AV → Heap → Prop} (h : vc Try.prog C72 (vcEnd [.tmp 2] Q) H [a0, .any, .any, .any, .any]) : Runs Try.prog 72 [a0] H Q :=
  @fn_go Try.prog mixed 72 Try.f72 C72 [.tmp 2] Try.func72 C72_ok C72_res C72_nm 5 Try.ntmps72 [a0] [a0, .any, .any, .any, .any] H Q h 4 (by kernel_rfl) (by kernel_rfl)

/-- spec.AreDemands -/
def C23 : CC :=
 (.seq (.ops [⟨some 2, none, .mv (.const (.bool false))⟩])
 (.seq (.seq (.ops [⟨some 3, none, .mv (.const (.int .i64 0))⟩])
  (.block 0 (.loop (.seq (.seq (.ops [⟨some 5, none, .mv (.tmp 3)⟩,
       ⟨some 6, none, .mv (.tmp 0)⟩,
       ⟨some 7, none, .len false (.tmp 6)⟩,
       ⟨some 8, none, .bin .lss 0 (.tmp 5) (.tmp 7)⟩])
     (.cond (.tmp 8) .skip
     (.exit 0)))
    (.seq (.block 1 (.seq (.ops [⟨some 11, none, .mv (.tmp 0)⟩,
        ⟨some 12, none, .mv (.tmp 3)⟩,
        ⟨some 13, none, .ia 3 (.tmp 11) (.tmp 12)⟩,
        ⟨some 14, none, .load true 3 (.tmp 13)⟩,
        ⟨some 4, none, .alloc [.string ⟨#[]⟩, .int .i64 0, .int .i64 0]⟩,
        ⟨none, none, .store 3 (.tmp 4) (.tmp 14)⟩])
      (.seq (.draw 31 [⟨some 15, none, .fa 0 (.tmp 4)⟩,
        ⟨some 16, none, .load false 1 (.tmp 15)⟩,
        ⟨some 17, none, .call (.func 63) [(.tmp 16)]⟩,
        ⟨some 18, none, .not (.tmp 17)⟩,
        ⟨some 19, none, .mv (.tmp 18)⟩,
        ⟨some 20, some (19, false), .fa 1 (.tmp 4)⟩,
        ⟨some 21, some (19, false), .load false 1 (.tmp 20)⟩,
        ⟨some 22, some (19, false), .call (.func 72) [(.tmp 21)]⟩,
        ⟨some 23, some (19, false), .not (.tmp 22)⟩,
        ⟨some 24, none, .pick (.tmp 19) (.const (.bool true)) (.tmp 23)⟩,
        ⟨some 25, none, .mv (.tmp 24)⟩,
        ⟨some 26, some (25, false), .fa 2 (.tmp 4)⟩,
        ⟨some 27, some (25, false), .load false 1 (.tmp 26)⟩,
        ⟨some 28, some (25, false), .call (.func 58) [(.tmp 27)]⟩,
        ⟨some 29, some (25, false), .not (.tmp 28)⟩,
        ⟨some 30, none, .pick (.tmp 25) (.const (.bool true)) (.tmp 29)⟩,
        ⟨some 31, none, .mv (.tmp 30)⟩,
        ⟨some 32, some (31, false), .mv (.tmp 3)⟩,
        ⟨some 33, some (31, false), .bin .gtr 0 (.tmp 32) (.const (.int .i64 0))⟩,
        ⟨some 34, some (31, false), .mv (.tmp 33)⟩,
        ⟨some 35, some (34, true), .mv (.tmp 0)⟩,
        ⟨some 36, some (34, true), .mv (.tmp 3)⟩,
        ⟨some 37, some (34, true), .bin .sub 0 (.tmp 36) (.const (.int .i64 1))⟩,
        ⟨some 38, some (34, true), .ia 3 (.tmp 35) (.tmp 37)⟩,
        ⟨some 39, some (34, true), .fa 0 (.tmp 38)⟩,
        ⟨some 40, some (34, true), .load false 1 (.tmp 39)⟩,
        ⟨some 41, some (34, true), .fa 0 (.tmp 4)⟩,
        ⟨some 42, some (34, true), .load false 1 (.tmp 41)⟩,
        ⟨some 43, some (34, true), .bin .geq 0 (.tmp 40) (.tmp 42)⟩,
        ⟨some 44, some (31, false), .pick (.tmp 34) (.tmp 43) (.const (.bool false))⟩,
        ⟨some 45, none, .pick (.tmp 31) (.const (.bool true)) (.tmp 44)⟩])
      (.cond (.tmp 45) (.seq (.ops [⟨some 2, none, .mv (.const (.bool false))⟩])
       .ret)
      .skip))))
    (.ops [⟨some 9, none, .mv (.tmp 3)⟩,
     ⟨some 10, none, .bin .add 0 (.tmp 9) (.const (.int .i64 1))⟩,
     ⟨some 3, none, .mv (.tmp 10)⟩]))))))
 (.seq (.ops [⟨some 46, none, .mv (.tmp 0)⟩,
   ⟨some 47, none, .len false (.tmp 46)⟩,
   ⟨some 48, none, .bin .leq 0 (.tmp 47) (.const (.int .i64 12))⟩,
   ⟨some 2, none, .mv (.tmp 48)⟩])
 .ret)))
theorem C23_ok : Try.f23.body.bind (comp Try.prog) = some C23 := by kernel_rfl
theorem C23_res : compRs Try.prog Try.f23.results.toList = some [.tmp 2] := by kernel_rfl
theorem C23_nm : (Try.f23.name == "runtime.NumGoroutine") = false := by kernel_rfl
theorem C23_fn {a0 : AV} {H : Heap} {Q : AV → Heap → Prop} (h : vc Try.prog C23 (vcEnd [.tmp 2] Q) H [a0, .any, .any, .any, .any, .any, .any, .any, .any, .any, .any, .any, .any, .any, .any, .any, .any, .any, .any, .any, .any, .any, .any, .any, .any, .any, .any, .any, .any, .any, .any, .any, .any, .any, .any, .any, .any, .any, .any, .any, .any, .any, .any, .any, .any, .any, .any, .any, .any]) : Runs Try.prog 23 [a0] H Q :=
  @fn_go Try.prog mixed 23 Try.f23 C23 [.tmp 2] Try.func23 C23_ok C23_res C23_nm 49 Try.ntmps23 [a0] [a0, .any, .any, .any, .any, .any, .any, .any, .any, .any, .any, .any, .any, .any, .any, .any, .any, .any, .any, .any, .any, .any, .any, .any, .any, .any, .any, .any, .any, .any, .any, .any, .any, .any, .any, .any, .any, .any, .any, .any, .any, .any, .any, .any, .any, .any, .any, .any, .any] H Q h 48 (by kernel_rfl) (by kernel_rfl)

/-- laws.toDemand -/
def C73 : CC :=
 (.seq (.ops [⟨some 1, none, .box (.tmp 0)⟩,
   ⟨some 2, none, .alloc [.string ⟨#[]⟩, .int .i64 0, .int .i64 0]⟩])
 (.seq (.ops [⟨some 3, none, .alloc [.string ⟨#[]⟩, .int .i64 0, .int .i64 0]⟩])
 (.seq (.ops [⟨some 4, none, .fa 0 (.tmp 1)⟩,
   ⟨some 5, none, .load false 1 (.tmp 4)⟩,
   ⟨some 6, none, .fa 0 (.tmp 3)⟩,
   ⟨none, none, .store 1 (.tmp 6) (.tmp 5)⟩])
 (.seq (.ops [⟨some 7, none, .fa 1 (.tmp 1)⟩,
   ⟨some 8, none, .load false 1 (.tmp 7)⟩,
   ⟨some 9, none, .fa 1 (.tmp 3)⟩,
   ⟨none, none, .store 1 (.tmp 9) (.tmp 8)⟩])
 (.seq (.ops [⟨some 10, none, .fa 2 (.tmp 1)⟩,
   ⟨some 11, none, .load false 1 (.tmp 10)⟩,
   ⟨some 12, none, .fa 2 (.tmp 3)⟩,
   ⟨none, none, .store 1 (.tmp 12) (.tmp 11)⟩])
 (.seq (.ops [⟨some 13, none, .load true 3 (.tmp 3)⟩,
   ⟨none, none, .store 3 (.tmp 2) (.tmp 13)⟩])
 .ret))))))
theorem C73_ok : Try.f73.body.bind (comp Try.prog) = some C73 := by kernel_rfl
theorem C73_res : compRs Try.prog Try.f73.results.toList = some [.cell true 3 2] := by kernel_rfl
theorem C73_nm : (Try.f73.name == "runtime.NumGoroutine") = false := by kernel_rfl
theorem C73_fn {a0 : AV} {H : Heap} {Q : AV → Heap → Prop} (h : vc Try.prog C73 (vcEnd [.cell true 3 2] Q) H [a0, .any, .any, .any, .any, .any, .any, .any, .any, .any, .any, .any, .any, .any]) : Runs Try.prog 73 [a0] H Q :=
  @fn_go Try.prog mixed 73 Try.f73 C73 [.cell true 3 2] Try.func73 C73_ok C73_res C73_nm 14 Try.ntmps73 [a0] [a0, .any, .any, .any, .any, .any, .any, .any, .any, .any, .any, .any, .any, .any] H Q h 13 (by kernel_rfl) (by kernel_rfl)

/-- laws.toDemandS -/
def C24 : CC :=
 (.seq (.ops [⟨some 2, none, .mv (.const (.slice none 0 0))⟩])
 (.seq (.ops [⟨some 5, none, .mv (.tmp 0)⟩,
   ⟨some 6, none, .len false (.tmp 5)⟩,
   ⟨some 7, none, .mks [.string ⟨#[]⟩, .int .i64 0, .int .i64 0] 32 (.tmp 6)⟩,
   ⟨some 3, none, .mv (.tmp 7)⟩])
 (.seq (.seq (.ops [⟨some 4, none, .mv (.const (.int .i64 0))⟩])
  (.block 0 (.loop (.seq (.seq (.ops [⟨some 8, none, .mv (.tmp 4)⟩,
       ⟨some 9, none, .mv (.tmp 0)⟩,
       ⟨some 10, none, .len false (.tmp 9)⟩,
       ⟨some 11, none, .bin .lss 0 (.tmp 8) (.tmp 10)⟩])
     (.cond (.tmp 11) .skip
     (.exit 0)))
    (.seq (.block 1 (.ops [⟨some 14, none, .mv (.tmp 3)⟩,
       ⟨some 15, none, .mv (.tmp 4)⟩,
       ⟨some 16, none, .mv (.tmp 0)⟩,
       ⟨some 17, none, .mv (.tmp 4)⟩,
       ⟨some 18, none, .ia 3 (.tmp 16) (.tmp 17)⟩,
       ⟨some 19, none, .load true 3 (.tmp 18)⟩,
       ⟨some 20, none, .call (.func 73) [(.tmp 19)]⟩,
       ⟨some 21, none, .ia 3 (.tmp 14) (.tmp 15)⟩,
       ⟨none, none, .store 3 (.tmp 21) (.tmp 20)⟩]))
    (.ops [⟨some 12, none, .mv (.tmp 4)⟩,
     ⟨some 13, none, .bin .add 0 (.tmp 12) (.const (.int .i64 1))⟩,
     ⟨some 4, none, .mv (.tmp 13)⟩]))))))
 (.seq (.ops [⟨some 22, none, .mv (.tmp 3)⟩,
   ⟨some 2, none, .mv (.tmp 22)⟩])
 .ret))))
theorem C24_ok : Try.f24.body.bind (comp Try.prog) = some C24 := by kernel_rfl
theorem C24_res : compRs Try.prog Try.f24.results.toList = some [.tmp 2] := by kernel_rfl
theorem C24_nm : (Try.f24.name == "runtime.NumGoroutine") = false := by kernel_rfl
theorem C24_fn {a0 : AV} {H : Heap} {Q : AV → Heap → Prop} (h : vc Try.prog C24 (vcEnd [.tmp 2] Q) H [a0, .any, .any, .any, .any, .any, .any, .any, .any, .any, .any, .any, .any, .any, .any, .any, .any, .any, .any, .any, .any, .any, .any]) : Runs Try.prog 24 [a0] H Q :=
  @fn_go Try.prog mixed 24 Try.f24 C24 [.tmp 2] Try.func24 C24_ok C24_res C24_nm 23 Try.ntmps24 [a0] [a0, .any, .any, .any, .any, .any, .any, .any, .any, .any, .any, .any, .any, .any, .any, .any, .any, .any, .any, .any, .any, .any, .any] H Q h 22 (by kernel_rfl) (by kernel_rfl)

/-- slices.IndexFunc[[]impl.Demand,impl.Demand] -/
def C138 : CC :=
 (.seq (.ops [⟨some 4, none, .mv (.const (.int .i64 0))⟩])
 (.seq (.seq (.ops [⟨some 6, none, .mv (.tmp 0)⟩,
    ⟨some 7, none, .len false (.tmp 6)⟩,
    ⟨some 8, none, .mv (.const (.int .i64 0))⟩])
  (.block 0 (.loop (.seq (.ops [⟨some 9, none, .bin .lss 0 (.tmp 8) (.tmp 7)⟩])
    (.seq (.cond (.tmp 9) .skip
     (.exit 0))
    (.seq (.block 1 (.seq (.ops [⟨some 10, none, .mv (.tmp 8)⟩,
        ⟨some 5, none, .mv (.tmp 10)⟩])
      (.seq (.ops [⟨some 11, none, .mv (.tmp 1)⟩,
        ⟨some 12, none, .mv (.tmp 0)⟩,
        ⟨some 13, none, .mv (.tmp 5)⟩,
        ⟨some 14, none, .ia 3 (.tmp 12) (.tmp 13)⟩,
        ⟨some 15, none, .load true 3 (.tmp 14)⟩,
        ⟨some 16, none, .call (.tmp 11) [(.tmp 15)]⟩])
      (.cond (.tmp 16) (.seq (.ops [⟨some 17, none, .mv (.tmp 5)⟩,
         ⟨some 4, none, .mv (.tmp 17)⟩])
       .ret)
      .skip))))
    (.ops [⟨some 18, none, .bin .add 0 (.tmp 8) (.const (.int .i64 1))⟩,
     ⟨some 8, none, .mv (.tmp 18)⟩])))))))
 (.seq (.ops [⟨some 4, none, .mv (.const (.int .i64 (-1)))⟩])
 .ret)))
theorem C138_ok : Try.f138.body.bind (comp Try.prog) = some C138 := by kernel_rfl
theorem C138_res : compRs Try.prog Try.f138.results.toList = some [.tmp 4] := by kernel_rfl
theorem C138_nm : (Try.f138.name == "runtime.NumGoroutine") = false := by kernel_rfl
theorem C138_fn {a0 a1 : AV} {H : Heap} {Q : AV → Heap → Prop} (h : vc Try.prog C138 (vcEnd [.tmp 4] Q) H [a0, a1, .any, .any, .any, .any, .any, .any, .any, .any, .any, .any, .any, .any, .any, .any, .any, .any, .any]) : Runs Try.prog 138 [a0, a1] H Q :=
  @fn_go Try.prog mixed 138 Try.f138 C138 [.tmp 4] Try.func138 C138_ok C138_res C138_nm 19 Try.ntmps138 [a0, a1] [a0, a1, .any, .any, .any, .any, .any, .any, .any, .any, .any, .any, .any, .any, .any, .any, .any, .any, .any] H Q h 17 (by kernel_rfl) (by kernel_rfl)

end Go.Proofs.Ytcbijbckbloadaa
