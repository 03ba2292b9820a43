/- The code of the functions, in the form of our laws; each is the program's own, by the kernel. Written by a program of ours. -/
import Derived.Test.YtiomjlnojomneaaB0
import Derived.KernelRfl
namespace Go.Proofs.Ytiomjlnojomneaa
open Go.Abs

/-- laws.szDemand -/
def C64 : CC :=
 (.seq (.ops [⟨some 2, none, .box (.tmp 0)⟩,
   ⟨some 4, none, .mv (.const (.int .i64 0))⟩])
 (.seq (.ops [⟨some 5, none, .mv (.tmp 1)⟩,
   ⟨some 6, none, .fa 0 (.tmp 2)⟩,
   ⟨some 7, none, .load false 1 (.tmp 6)⟩,
   ⟨some 8, none, .len true (.tmp 7)⟩,
   ⟨some 9, none, .bin .sub 0 (.tmp 5) (.tmp 8)⟩,
   ⟨some 1, none, .mv (.tmp 9)⟩])
 (.seq (.seq (.ops [⟨some 10, none, .mv (.tmp 1)⟩,
    ⟨some 11, none, .bin .lss 0 (.tmp 10) (.const (.int .i64 0))⟩])
  (.cond (.tmp 11) (.seq (.ops [⟨some 4, none, .mv (.const (.int .i64 (-1)))⟩])
   .ret)
  .skip))
 (.seq (.ops [⟨some 12, none, .mv (.tmp 1)⟩,
   ⟨some 4, none, .mv (.tmp 12)⟩])
 .ret))))
theorem C64_ok : Try.f64.body.bind (comp Try.prog) = some C64 := by kernel_rfl
theorem C64_res : compRs Try.prog Try.f64.results.toList = some [.tmp 4] := by kernel_rfl
theorem C64_nm : (Try.f64.name == "runtime.NumGoroutine") = false := by kernel_rfl
theorem C64_fn {a0 a1 : AV} {H : Heap} {Q : AV → Heap → Prop} (h : vc Try.prog C64 (vcEnd [.tmp 4] Q) H [a0, a1, .any, .any, .any, .any, .any, .any, .any, .any, .any, .any, .any]) : Runs Try.prog 64 [a0, a1] H Q :=
  @fn_go Try.prog mixed 64 Try.f64 C64 [.tmp 4] Try.func64 C64_ok C64_res C64_nm 13 Try.ntmps64 [a0, a1] [a0, a1, .any, .any, .any, .any, .any, .any, .any, .any, .any, .any, .any] H Q h 11 (by kernel_rfl) (by kernel_rfl)

/-- laws.szDemandS -/
def C14 : CC :=
 (.seq (.ops [⟨some 4, none, .mv (.const (.int .i64 0))⟩])
 (.seq (.ops [⟨some 6, none, .mv (.tmp 1)⟩,
   ⟨some 7, none, .mv (.tmp 0)⟩,
   ⟨some 8, none, .len false (.tmp 7)⟩,
   ⟨some 9, none, .bin .sub 0 (.tmp 6) (.tmp 8)⟩,
   ⟨some 1, none, .mv (.tmp 9)⟩])
 (.seq (.seq (.ops [⟨some 10, none, .mv (.tmp 1)⟩,
    ⟨some 11, none, .bin .lss 0 (.tmp 10) (.const (.int .i64 0))⟩])
  (.cond (.tmp 11) (.seq (.ops [⟨some 4, none, .mv (.const (.int .i64 (-1)))⟩])
   .ret)
  .skip))
 (.seq (.seq (.ops [⟨some 5, none, .mv (.const (.int .i64 0))⟩])
  (.block 0 (.loop (.seq (.seq (.ops [⟨some 12, none, .mv (.tmp 5)⟩,
       ⟨some 13, none, .mv (.tmp 0)⟩,
       ⟨some 14, none, .len false (.tmp 13)⟩,
       ⟨some 15, none, .bin .lss 0 (.tmp 12) (.tmp 14)⟩])
     (.cond (.tmp 15) .skip
     (.exit 0)))
    (.seq (.block 1 (.seq (.ops [⟨some 18, none, .mv (.tmp 0)⟩,
        ⟨some 19, none, .mv (.tmp 5)⟩,
        ⟨some 20, none, .ia 3 (.tmp 18) (.tmp 19)⟩,
        ⟨some 21, none, .load true 3 (.tmp 20)⟩,
        ⟨some 22, none, .mv (.tmp 1)⟩,
        ⟨some 23, none, .call (.func 64) [(.tmp 21), (.tmp 22)]⟩,
        ⟨some 1, none, .mv (.tmp 23)⟩])
      (.seq (.ops [⟨some 24, none, .mv (.tmp 1)⟩,
        ⟨some 25, none, .bin .lss 0 (.tmp 24) (.const (.int .i64 0))⟩])
      (.cond (.tmp 25) (.seq (.ops [⟨some 4, none, .mv (.const (.int .i64 (-1)))⟩])
       .ret)
      .skip))))
    (.ops [⟨some 16, none, .mv (.tmp 5)⟩,
     ⟨some 17, none, .bin .add 0 (.tmp 16) (.const (.int .i64 1))⟩,
     ⟨some 5, none, .mv (.tmp 17)⟩]))))))
 (.seq (.ops [⟨some 26, none, .mv (.tmp 1)⟩,
   ⟨some 4, none, .mv (.tmp 26)⟩])
 .ret)))))
theorem C14_ok : Try.f14.body.bind (comp Try.prog) = some C14 := by kernel_rfl
theorem C14_res : compRs Try.prog Try.f14.results.toList = some [.tmp 4] := by kernel_rfl
theorem C14_nm : (Try.f14.name == "runtime.NumGoroutine") = false := by kernel_rfl
theorem C14_fn {a0 a1 : AV} {H : Heap} {Q : AV → Heap → Prop} (h : vc Try.prog C14 (vcEnd [.tmp 4] Q) H [a0, a1, .any, .any, .any, .any, .any, .any, .any, .any, .any, .any, .any, .any, .any, .any, .any, .any, .any, .any, .any, .any, .any, .any, .any, .any, .any]) : Runs Try.prog 14 [a0, a1] H Q :=
  @fn_go Try.prog mixed 14 Try.f14 C14 [.tmp 4] Try.func14 C14_ok C14_res C14_nm 27 Try.ntmps14 [a0, a1] [a0, a1, .any, .any, .any, .any, .any, .any, .any, .any, .any, .any, .any, .any, .any, .any, .any, .any, .any, .any, .any, .any, .any, .any, .any, .any, .any] H Q h 25 (by kernel_rfl) (by kernel_rfl)

/-- spec.l01In -/
def C74 : CC :=
 (.seq (.ops [⟨some 6, none, .mv (.const (.bool false))⟩])
 (.seq (.ops [⟨some 7, none, .mv (.tmp 0)⟩,
   ⟨some 8, none, .mv (.tmp 1)⟩,
   ⟨some 9, none, .bin .geq 0 (.tmp 7) (.tmp 8)⟩,
   ⟨some 10, none, .mv (.tmp 9)⟩,
   ⟨some 11, some (10, true), .mv (.tmp 0)⟩,
   ⟨some 12, some (10, true), .mv (.tmp 2)⟩,
   ⟨some 13, some (10, true), .bin .leq 0 (.tmp 11) (.tmp 12)⟩,
   ⟨some 14, none, .pick (.tmp 10) (.tmp 13) (.const (.bool false))⟩,
   ⟨some 6, none, .mv (.tmp 14)⟩])
 .ret))
theorem C74_ok : Try.f74.body.bind (comp Try.prog) = some C74 := by kernel_rfl
theorem C74_res : compRs Try.prog Try.f74.results.toList = some [.tmp 6] := by kernel_rfl
theorem C74_nm : (Try.f74.name == "runtime.NumGoroutine") = false := by kernel_rfl
theorem C74_fn {a0 a1 a2 : AV} {H : Heap} {Q : AV → Heap → Prop} (h : vc Try.prog C74 (vcEnd [.tmp 6] Q) H [a0, a1, a2, .any, .any, .any, .any, .any, .any, .any, .any, .any, .any, .any, .any]) : Runs Try.prog 74 [a0, a1, a2] H Q :=
  @fn_go Try.prog mixed 74 Try.f74 C74 [.tmp 6] Try.func74 C74_ok C74_res C74_nm 15 Try.ntmps74 [a0, a1, a2] [a0, a1, a2, .any, .any, .any, .any, .any, .any, .any, .any, .any, .any, .any, .any] H Q h 12 (by kernel_rfl) (by kernel_rfl)

/-- spec.l23Rank -/
def C81 : CC :=
 (.seq (.ops [⟨some 2, none, .mv (.const (.bool false))⟩])
 (.seq (.ops [⟨some 3, none, .mv (.tmp 0)⟩,
   ⟨some 4, none, .call (.func 74) [(.tmp 3), (.const (.int .i64 1)), (.const (.int .i64 5))]⟩,
   ⟨some 2, none, .mv (.tmp 4)⟩])
 .ret))
theorem C81_ok : Try.f81.body.bind (comp Try.prog) = some C81 := by kernel_rfl
theorem C81_res : compRs Try.prog Try.f81.results.toList = some [.tmp 2] := by kernel_rfl
theorem C81_nm : (Try.f81.name == "runtime.NumGoroutine") = false := by kernel_rfl
theorem C81_fn {a0 : AV} {H : Heap} {Q : AV → Heap → Prop} (h : vc Try.prog C81 (vcEnd [.tmp 2] Q) H [a0, .any, .any, .any, .any]) : Runs Try.prog 81 [a0] H Q :=
  @fn_go Try.prog mixed 81 Try.f81 C81 [.tmp 2] Try.func81 C81_ok C81_res C81_nm 5 Try.ntmps81 [a0] [a0, .any, .any, .any, .any] H Q h 4 (by kernel_rfl) (by kernel_rfl)

/-- spec.IsAmount -/
def C87 : CC :=
 (.seq (.ops [⟨some 2, none, .mv (.const (.bool false))⟩])
 (.seq (.ops [⟨some 3, none, .mv (.tmp 0)⟩,
   ⟨some 4, none, .call (.func 74) [(.tmp 3), (.const (.int .i64 0)), (.const (.int .i64 1000000000))]⟩,
   ⟨some 2, none, .mv (.tmp 4)⟩])
 .ret))
theorem C87_ok : Try.f87.body.bind (comp Try.prog) = some C87 := by kernel_rfl
theorem C87_res : compRs Try.prog Try.f87.results.toList = some [.tmp 2] := by kernel_rfl
theorem C87_nm : (Try.f87.name == "runtime.NumGoroutine") = false := by kernel_rfl
theorem C87_fn {a0 : AV} {H : Heap} {Q : AV → Heap → Prop} (h : vc Try.prog C87 (vcEnd [.tmp 2] Q) H [a0, .any, .any, .any, .any]) : Runs Try.prog 87 [a0] H Q :=
  @fn_go Try.prog mixed 87 Try.f87 C87 [.tmp 2] Try.func87 C87_ok C87_res C87_nm 5 Try.ntmps87 [a0] [a0, .any, .any, .any, .any] H Q h 4 (by kernel_rfl) (by kernel_rfl)

/-- spec.IsPartyCode -/
def C124 : CC :=
 (.seq (.ops [⟨some 2, none, .mv (.const (.bool false))⟩])
 (.seq (.seq (.ops [⟨some 3, none, .mv (.const (.int .i64 0))⟩])
  (.block 0 (.loop (.seq (.seq (.ops [⟨some 4, none, .mv (.tmp 3)⟩,
       ⟨some 5, none, .mv (.tmp 0)⟩,
       ⟨some 6, none, .len true (.tmp 5)⟩,
       ⟨some 7, none, .bin .lss 0 (.tmp 4) (.tmp 6)⟩])
     (.cond (.tmp 7) .skip
     (.exit 0)))
    (.seq (.block 1 (.seq (.ops [⟨some 10, none, .mv (.tmp 0)⟩,
        ⟨some 11, none, .mv (.tmp 3)⟩,
        ⟨some 12, none, .idx (.tmp 10) (.tmp 11)⟩,
        ⟨some 13, none, .bin .lss 0 (.tmp 12) (.const (.int .u8 97))⟩,
        ⟨some 14, none, .mv (.tmp 13)⟩,
        ⟨some 15, some (14, false), .mv (.tmp 0)⟩,
        ⟨some 16, some (14, false), .mv (.tmp 3)⟩,
        ⟨some 17, some (14, false), .idx (.tmp 15) (.tmp 16)⟩,
        ⟨some 18, some (14, false), .bin .gtr 0 (.tmp 17) (.const (.int .u8 122))⟩,
        ⟨some 19, none, .pick (.tmp 14) (.const (.bool true)) (.tmp 18)⟩])
      (.cond (.tmp 19) (.seq (.ops [⟨some 2, none, .mv (.const (.bool false))⟩])
       .ret)
      .skip)))
    (.ops [⟨some 8, none, .mv (.tmp 3)⟩,
     ⟨some 9, none, .bin .add 0 (.tmp 8) (.const (.int .i64 1))⟩,
     ⟨some 3, none, .mv (.tmp 9)⟩]))))))
 (.seq (.ops [⟨some 20, none, .mv (.tmp 0)⟩,
   ⟨some 21, none, .len true (.tmp 20)⟩,
   ⟨some 22, none, .call (.func 74) [(.tmp 21), (.const (.int .i64 1)), (.const (.int .i64 6))]⟩,
   ⟨some 2, none, .mv (.tmp 22)⟩])
 .ret)))
theorem C124_ok : Try.f124.body.bind (comp Try.prog) = some C124 := by kernel_rfl
theorem C124_res : compRs Try.prog Try.f124.results.toList = some [.tmp 2] := by kernel_rfl
theorem C124_nm : (Try.f124.name == "runtime.NumGoroutine") = false := by kernel_rfl
theorem C124_fn {a0 : AV} {H : Heap} {Q : AV → Heap → Prop} (h : vc Try.prog C124 (vcEnd [.tmp 2] Q) H [a0, .any, .any, .any, .any, .any, .any, .any, .any, .any, .any, .any, .any, .any, .any, .any, .any, .any, .any, .any, .any, .any, .any]) : Runs Try.prog 124 [a0] H Q :=
  @fn_go Try.prog mixed 124 Try.f124 C124 [.tmp 2] Try.func124 C124_ok C124_res C124_nm 23 Try.ntmps124 [a0] [a0, .any, .any, .any, .any, .any, .any, .any, .any, .any, .any, .any, .any, .any, .any, .any, .any, .any, .any, .any, .any, .any, .any] H Q h 22 (by kernel_rfl) (by kernel_rfl)

/-- spec.AreDemands -/
def C80 : CC :=
 (.seq (.ops [⟨some 2, none, .mv (.const (.bool false))⟩])
 (.seq (.seq (.ops [⟨some 3, none, .mv (.const (.int .i64 0))⟩])
  (.block 0 (.loop (.seq (.seq (.ops [⟨some 5, none, .mv (.tmp 3)⟩,
       ⟨some 6, none, .mv (.tmp 0)⟩,
       ⟨some 7, none, .len false (.tmp 6)⟩,
       ⟨some 8, none, .bin .lss 0 (.tmp 5) (.tmp 7)⟩])
     (.cond (.tmp 8) .skip
     (.exit 0)))
    (.seq (.block 1 (.seq (.ops [⟨some 11, none, .mv (.tmp 0)⟩,
        ⟨some 12, none, .mv (.tmp 3)⟩,
        ⟨some 13, none, .ia 3 (.tmp 11) (.tmp 12)⟩,
        ⟨some 14, none, .load true 3 (.tmp 13)⟩,
        ⟨some 4, none, .alloc [.string ⟨#[]⟩, .int .i64 0, .int .i64 0]⟩,
        ⟨none, none, .store 3 (.tmp 4) (.tmp 14)⟩])
      (.seq (.draw 31 [⟨some 15, none, .fa 0 (.tmp 4)⟩,
        ⟨some 16, none, .load false 1 (.tmp 15)⟩,
        ⟨some 17, none, .call (.func 124) [(.tmp 16)]⟩,
        ⟨some 18, none, .not (.tmp 17)⟩,
        ⟨some 19, none, .mv (.tmp 18)⟩,
        ⟨some 20, some (19, false), .fa 1 (.tmp 4)⟩,
        ⟨some 21, some (19, false), .load false 1 (.tmp 20)⟩,
        ⟨some 22, some (19, false), .call (.func 81) [(.tmp 21)]⟩,
        ⟨some 23, some (19, false), .not (.tmp 22)⟩,
        ⟨some 24, none, .pick (.tmp 19) (.const (.bool true)) (.tmp 23)⟩,
        ⟨some 25, none, .mv (.tmp 24)⟩,
        ⟨some 26, some (25, false), .fa 2 (.tmp 4)⟩,
        ⟨some 27, some (25, false), .load false 1 (.tmp 26)⟩,
        ⟨some 28, some (25, false), .call (.func 87) [(.tmp 27)]⟩,
        ⟨some 29, some (25, false), .not (.tmp 28)⟩,
        ⟨some 30, none, .pick (.tmp 25) (.const (.bool true)) (.tmp 29)⟩,
        ⟨some 31, none, .mv (.tmp 30)⟩,
        ⟨some 32, some (31, false), .mv (.tmp 3)⟩,
        ⟨some 33, some (31, false), .bin .gtr 0 (.tmp 32) (.const (.int .i64 0))⟩,
        ⟨some 34, some (31, false), .mv (.tmp 33)⟩,
        ⟨some 35, some (34, true), .mv (.tmp 0)⟩,
        ⟨some 36, some (34, true), .mv (.tmp 3)⟩,
        ⟨some 37, some (34, true), .bin .sub 0 (.tmp 36) (.const (.int .i64 1))⟩,
        ⟨some 38, some (34, true), .ia 3 (.tmp 35) (.tmp 37)⟩,
        ⟨some 39, some (34, true), .fa 0 (.tmp 38)⟩,
        ⟨some 40, some (34, true), .load false 1 (.tmp 39)⟩,
        ⟨some 41, some (34, true), .fa 0 (.tmp 4)⟩,
        ⟨some 42, some (34, true), .load false 1 (.tmp 41)⟩,
        ⟨some 43, some (34, true), .bin .geq 0 (.tmp 40) (.tmp 42)⟩,
        ⟨some 44, some (31, false), .pick (.tmp 34) (.tmp 43) (.const (.bool false))⟩,
        ⟨some 45, none, .pick (.tmp 31) (.const (.bool true)) (.tmp 44)⟩])
      (.cond (.tmp 45) (.seq (.ops [⟨some 2, none, .mv (.const (.bool false))⟩])
       .ret)
      .skip))))
    (.ops [⟨some 9, none, .mv (.tmp 3)⟩,
     ⟨some 10, none, .bin .add 0 (.tmp 9) (.const (.int .i64 1))⟩,
     ⟨some 3, none, .mv (.tmp 10)⟩]))))))
 (.seq (.ops [⟨some 46, none, .mv (.tmp 0)⟩,
   ⟨some 47, none, .len false (.tmp 46)⟩,
   ⟨some 48, none, .bin .leq 0 (.tmp 47) (.const (.int .i64 12))⟩,
   ⟨some 2, none, .mv (.tmp 48)⟩])
 .ret)))
theorem C80_ok : Try.f80.body.bind (comp Try.prog) = some C80 := by kernel_rfl
theorem C80_res : compRs Try.prog Try.f80.results.toList = some [.tmp 2] := by kernel_rfl
theorem C80_nm : (Try.f80.name == "runtime.NumGoroutine") = false := by kernel_rfl
theorem C80_fn {a0 : AV} {H : Heap} {Q : AV → Heap → Prop} (h : vc Try.prog C80 (vcEnd [.tmp 2] Q) H [a0, .any, .any, .any, .any, .any, .any, .any, .any, .any, .any, .any, .any, .any, .any, .any, .any, .any, .any, .any, .any, .any, .any, .any, .any, .any, .any, .any, .any, .any, .any, .any, .any, .any, .any, .any, .any, .any, .any, .any, .any, .any, .any, .any, .any, .any, .any, .any, .any]) : Runs Try.prog 80 [a0] H Q :=
  @fn_go Try.prog mixed 80 Try.f80 C80 [.tmp 2] Try.func80 C80_ok C80_res C80_nm 49 Try.ntmps80 [a0] [a0, .any, .any, .any, .any, .any, .any, .any, .any, .any, .any, .any, .any, .any, .any, .any, .any, .any, .any, .any, .any, .any, .any, .any, .any, .any, .any, .any, .any, .any, .any, .any, .any, .any, .any, .any, .any, .any, .any, .any, .any, .any, .any, .any, .any, .any, .any, .any, .any] H Q h 48 (by kernel_rfl) (by kernel_rfl)

/-- spec.l23Code -/
def C65 : CC :=
 (.seq (.ops [⟨some 4, none, .mv (.const (.int .i64 0))⟩])
 (.seq (.seq (.ops [⟨some 5, none, .mv (.tmp 0)⟩,
    ⟨some 6, none, .call (.func 80) [(.tmp 5)]⟩,
    ⟨some 7, none, .not (.tmp 6)⟩])
  (.cond (.tmp 7) (.seq (.ops [⟨some 4, none, .mv (.const (.int .i64 1))⟩])
   .ret)
  .skip))
 (.seq (.seq (.ops [⟨some 8, none, .mv (.tmp 1)⟩,
    ⟨some 9, none, .call (.func 87) [(.tmp 8)]⟩,
    ⟨some 10, none, .not (.tmp 9)⟩])
  (.cond (.tmp 10) (.seq (.ops [⟨some 4, none, .mv (.const (.int .i64 2))⟩])
   .ret)
  .skip))
 (.seq (.ops [⟨some 4, none, .mv (.const (.int .i64 0))⟩])
 .ret))))
theorem C65_ok : Try.f65.body.bind (comp Try.prog) = some C65 := by kernel_rfl
theorem C65_res : compRs Try.prog Try.f65.results.toList = some [.tmp 4] := by kernel_rfl
theorem C65_nm : (Try.f65.name == "runtime.NumGoroutine") = false := by kernel_rfl
theorem C65_fn {a0 a1 : AV} {H : Heap} {Q : AV → Heap → Prop} (h : vc Try.prog C65 (vcEnd [.tmp 4] Q) H [a0, a1, .any, .any, .any, .any, .any, .any, .any, .any, .any]) : Runs Try.prog 65 [a0, a1] H Q :=
  @fn_go Try.prog mixed 65 Try.f65 C65 [.tmp 4] Try.func65 C65_ok C65_res C65_nm 11 Try.ntmps65 [a0, a1] [a0, a1, .any, .any, .any, .any, .any, .any, .any, .any, .any] H Q h 9 (by kernel_rfl) (by kernel_rfl)

/-- spec.l01Sum -/
def C66 : CC :=
 (.seq (.ops [⟨some 2, none, .mv (.const (.int .i64 0))⟩])
 (.seq (.ops [⟨some 3, none, .mv (.const (.int .i64 0))⟩])
 (.seq (.seq (.ops [⟨some 4, none, .mv (.const (.int .i64 0))⟩])
  (.block 0 (.loop (.seq (.seq (.ops [⟨some 5, none, .mv (.tmp 4)⟩,
       ⟨some 6, none, .mv (.tmp 0)⟩,
       ⟨some 7, none, .len false (.tmp 6)⟩,
       ⟨some 8, none, .bin .lss 0 (.tmp 5) (.tmp 7)⟩])
     (.cond (.tmp 8) .skip
     (.exit 0)))
    (.seq (.block 1 (.ops [⟨some 11, none, .mv (.tmp 3)⟩,
       ⟨some 12, none, .mv (.tmp 0)⟩,
       ⟨some 13, none, .mv (.tmp 4)⟩,
       ⟨some 14, none, .ia 1 (.tmp 12) (.tmp 13)⟩,
       ⟨some 15, none, .load false 1 (.tmp 14)⟩,
       ⟨some 16, none, .bin .add 0 (.tmp 11) (.tmp 15)⟩,
       ⟨some 3, none, .mv (.tmp 16)⟩]))
    (.ops [⟨some 9, none, .mv (.tmp 4)⟩,
     ⟨some 10, none, .bin .add 0 (.tmp 9) (.const (.int .i64 1))⟩,
     ⟨some 4, none, .mv (.tmp 10)⟩]))))))
 (.seq (.ops [⟨some 17, none, .mv (.tmp 3)⟩,
   ⟨some 2, none, .mv (.tmp 17)⟩])
 .ret))))
theorem C66_ok : Try.f66.body.bind (comp Try.prog) = some C66 := by kernel_rfl
theorem C66_res : compRs Try.prog Try.f66.results.toList = some [.tmp 2] := by kernel_rfl
theorem C66_nm : (Try.f66.name == "runtime.NumGoroutine") = false := by kernel_rfl
theorem C66_fn {a0 : AV} {H : Heap} {Q : AV → Heap → Prop} (h : vc Try.prog C66 (vcEnd [.tmp 2] Q) H [a0, .any, .any, .any, .any, .any, .any, .any, .any, .any, .any, .any, .any, .any, .any, .any, .any, .any]) : Runs Try.prog 66 [a0] H Q :=
  @fn_go Try.prog mixed 66 Try.f66 C66 [.tmp 2] Try.func66 C66_ok C66_res C66_nm 18 Try.ntmps66 [a0] [a0, .any, .any, .any, .any, .any, .any, .any, .any, .any, .any, .any, .any, .any, .any, .any, .any, .any] H Q h 17 (by kernel_rfl) (by kernel_rfl)

/-- spec.l23Asked -/
def C67 : CC :=
 (.seq (.ops [⟨some 4, none, .mv (.const (.slice none 0 0))⟩])
 (.seq (.ops [⟨some 8, none, .lit 1 []⟩,
   ⟨some 5, none, .mv (.tmp 8)⟩])
 (.seq (.seq (.ops [⟨some 6, none, .mv (.const (.int .i64 0))⟩])
  (.block 0 (.loop (.seq (.seq (.ops [⟨some 9, none, .mv (.tmp 6)⟩,
       ⟨some 10, none, .mv (.tmp 0)⟩,
       ⟨some 11, none, .len false (.tmp 10)⟩,
       ⟨some 12, none, .bin .lss 0 (.tmp 9) (.tmp 11)⟩])
     (.cond (.tmp 12) .skip
     (.exit 0)))
    (.seq (.block 1 (.seq (.ops [⟨some 7, none, .mv (.const (.int .i64 0))⟩])
      (.seq (.seq (.ops [⟨some 15, none, .mv (.tmp 0)⟩,
         ⟨some 16, none, .mv (.tmp 6)⟩,
         ⟨some 17, none, .ia 3 (.tmp 15) (.tmp 16)⟩,
         ⟨some 18, none, .fa 1 (.tmp 17)⟩,
         ⟨some 19, none, .load false 1 (.tmp 18)⟩,
         ⟨some 20, none, .mv (.tmp 1)⟩,
         ⟨some 21, none, .bin .eql 0 (.tmp 19) (.tmp 20)⟩])
       (.cond (.tmp 21) (.ops [⟨some 22, none, .mv (.tmp 0)⟩,
         ⟨some 23, none, .mv (.tmp 6)⟩,
         ⟨some 24, none, .ia 3 (.tmp 22) (.tmp 23)⟩,
         ⟨some 25, none, .fa 2 (.tmp 24)⟩,
         ⟨some 26, none, .load false 1 (.tmp 25)⟩,
         ⟨some 7, none, .mv (.tmp 26)⟩])
       .skip))
      (.ops [⟨some 27, none, .mv (.tmp 5)⟩,
       ⟨some 28, none, .mv (.tmp 7)⟩,
       ⟨some 29, none, .lit 1 [(.tmp 28)]⟩,
       ⟨some 30, none, .app 1 8 (.tmp 27) (.tmp 29)⟩,
       ⟨some 5, none, .mv (.tmp 30)⟩]))))
    (.ops [⟨some 13, none, .mv (.tmp 6)⟩,
     ⟨some 14, none, .bin .add 0 (.tmp 13) (.const (.int .i64 1))⟩,
     ⟨some 6, none, .mv (.tmp 14)⟩]))))))
 (.seq (.ops [⟨some 31, none, .mv (.tmp 5)⟩,
   ⟨some 4, none, .mv (.tmp 31)⟩])
 .ret))))
theorem C67_ok : Try.f67.body.bind (comp Try.prog) = some C67 := by kernel_rfl
theorem C67_res : compRs Try.prog Try.f67.results.toList = some [.tmp 4] := by kernel_rfl
theorem C67_nm : (Try.f67.name == "runtime.NumGoroutine") = false := by kernel_rfl
theorem C67_fn {a0 a1 : AV} {H : Heap} {Q : AV → Heap → Prop} (h : vc Try.prog C67 (vcEnd [.tmp 4] Q) H [a0, a1, .any, .any, .any, .any, .any, .any, .any, .any, .any, .any, .any, .any, .any, .any, .any, .any, .any, .any, .any, .any, .any, .any, .any, .any, .any, .any, .any, .any, .any, .any]) : Runs Try.prog 67 [a0, a1] H Q :=
  @fn_go Try.prog mixed 67 Try.f67 C67 [.tmp 4] Try.func67 C67_ok C67_res C67_nm 32 Try.ntmps67 [a0, a1] [a0, a1, .any, .any, .any, .any, .any, .any, .any, .any, .any, .any, .any, .any, .any, .any, .any, .any, .any, .any, .any, .any, .any, .any, .any, .any, .any, .any, .any, .any, .any, .any] H Q h 30 (by kernel_rfl) (by kernel_rfl)

/-- spec.LastPaidRank -/
def C15 : CC :=
 (.seq (.ops [⟨some 4, none, .mv (.const (.int .i64 0))⟩,
   ⟨some 5, none, .mv (.const (.int .i64 0))⟩])
 (.seq (.ops [⟨some 9, none, .mv (.tmp 0)⟩,
   ⟨some 10, none, .mv (.tmp 1)⟩,
   ⟨some 11, none, .call (.func 65) [(.tmp 9), (.tmp 10)]⟩,
   ⟨some 6, none, .mv (.tmp 11)⟩])
 (.seq (.seq (.ops [⟨some 12, none, .mv (.tmp 6)⟩,
    ⟨some 13, none, .bin .neq 0 (.tmp 12) (.const (.int .i64 0))⟩])
  (.cond (.tmp 13) (.seq (.ops [⟨some 14, none, .mv (.tmp 6)⟩,
     ⟨some 4, none, .mv (.const (.int .i64 0))⟩,
     ⟨some 5, none, .mv (.tmp 14)⟩])
   .ret)
  .skip))
 (.seq (.ops [⟨some 7, none, .mv (.const (.int .i64 0))⟩])
 (.seq (.seq (.ops [⟨some 8, none, .mv (.const (.int .i64 1))⟩])
  (.block 0 (.loop (.seq (.seq (.ops [⟨some 15, none, .mv (.tmp 8)⟩,
       ⟨some 16, none, .bin .leq 0 (.tmp 15) (.const (.int .i64 5))⟩])
     (.cond (.tmp 16) .skip
     (.exit 0)))
    (.seq (.block 1 (.seq (.ops [⟨some 19, none, .mv (.tmp 7)⟩,
        ⟨some 20, none, .mv (.tmp 0)⟩,
        ⟨some 21, none, .mv (.tmp 8)⟩,
        ⟨some 22, none, .call (.func 67) [(.tmp 20), (.tmp 21)]⟩,
        ⟨some 23, none, .call (.func 66) [(.tmp 22)]⟩,
        ⟨some 24, none, .bin .add 0 (.tmp 19) (.tmp 23)⟩,
        ⟨some 7, none, .mv (.tmp 24)⟩])
      (.seq (.ops [⟨some 25, none, .mv (.tmp 7)⟩,
        ⟨some 26, none, .mv (.tmp 1)⟩,
        ⟨some 27, none, .bin .gtr 0 (.tmp 25) (.tmp 26)⟩])
      (.cond (.tmp 27) (.seq (.ops [⟨some 28, none, .mv (.tmp 8)⟩,
         ⟨some 29, none, .bin .sub 0 (.tmp 28) (.const (.int .i64 1))⟩,
         ⟨some 4, none, .mv (.tmp 29)⟩,
         ⟨some 5, none, .mv (.const (.int .i64 0))⟩])
       .ret)
      .skip))))
    (.ops [⟨some 17, none, .mv (.tmp 8)⟩,
     ⟨some 18, none, .bin .add 0 (.tmp 17) (.const (.int .i64 1))⟩,
     ⟨some 8, none, .mv (.tmp 18)⟩]))))))
 (.seq (.ops [⟨some 4, none, .mv (.const (.int .i64 5))⟩,
   ⟨some 5, none, .mv (.const (.int .i64 0))⟩])
 .ret))))))
theorem C15_ok : Try.f15.body.bind (comp Try.prog) = some C15 := by kernel_rfl
theorem C15_res : compRs Try.prog Try.f15.results.toList = some [.tmp 4, .tmp 5] := by kernel_rfl
theorem C15_nm : (Try.f15.name == "runtime.NumGoroutine") = false := by kernel_rfl
theorem C15_fn {a0 a1 : AV} {H : Heap} {Q : AV → Heap → Prop} (h : vc Try.prog C15 (vcEnd [.tmp 4, .tmp 5] Q) H [a0, a1, .any, .any, .any, .any, .any, .any, .any, .any, .any, .any, .any, .any, .any, .any, .any, .any, .any, .any, .any, .any, .any, .any, .any, .any, .any, .any, .any, .any]) : Runs Try.prog 15 [a0, a1] H Q :=
  @fn_go Try.prog mixed 15 Try.f15 C15 [.tmp 4, .tmp 5] Try.func15 C15_ok C15_res C15_nm 30 Try.ntmps15 [a0, a1] [a0, a1, .any, .any, .any, .any, .any, .any, .any, .any, .any, .any, .any, .any, .any, .any, .any, .any, .any, .any, .any, .any, .any, .any, .any, .any, .any, .any, .any, .any] H Q h 28 (by kernel_rfl) (by kernel_rfl)

/-- laws.toDemand -/
def C68 : CC :=
 (.seq (.ops [⟨some 1, none, .box (.tmp 0)⟩,
   ⟨some 2, none, .alloc [.string ⟨#[]⟩, .int .i64 0, .int .i64 0]⟩])
 (.seq (.ops [⟨some 3, none, .alloc [.string ⟨#[]⟩, .int .i64 0, .int .i64 0]⟩])
 (.seq (.ops [⟨some 4, none, .fa 0 (.tmp 1)⟩,
   ⟨some 5, none, .load false 1 (.tmp 4)⟩,
   ⟨some 6, none, .fa 0 (.tmp 3)⟩,
   ⟨none, none, .store 1 (.tmp 6) (.tmp 5)⟩])
 (.seq (.ops [⟨some 7, none, .fa 1 (.tmp 1)⟩,
   ⟨some 8, none, .load false 1 (.tmp 7)⟩,
   ⟨some 9, none, .fa 1 (.tmp 3)⟩,
   ⟨none, none, .store 1 (.tmp 9) (.tmp 8)⟩])
 (.seq (.ops [⟨some 10, none, .fa 2 (.tmp 1)⟩,
   ⟨some 11, none, .load false 1 (.tmp 10)⟩,
   ⟨some 12, none, .fa 2 (.tmp 3)⟩,
   ⟨none, none, .store 1 (.tmp 12) (.tmp 11)⟩])
 (.seq (.ops [⟨some 13, none, .load true 3 (.tmp 3)⟩,
   ⟨none, none, .store 3 (.tmp 2) (.tmp 13)⟩])
 .ret))))))
theorem C68_ok : Try.f68.body.bind (comp Try.prog) = some C68 := by kernel_rfl
theorem C68_res : compRs Try.prog Try.f68.results.toList = some [.cell true 3 2] := by kernel_rfl
theorem C68_nm : (Try.f68.name == "runtime.NumGoroutine") = false := by kernel_rfl
theorem C68_fn {a0 : AV} {H : Heap} {Q : AV → Heap → Prop} (h : vc Try.prog C68 (vcEnd [.cell true 3 2] Q) H [a0, .any, .any, .any, .any, .any, .any, .any, .any, .any, .any, .any, .any, .any]) : Runs Try.prog 68 [a0] H Q :=
  @fn_go Try.prog mixed 68 Try.f68 C68 [.cell true 3 2] Try.func68 C68_ok C68_res C68_nm 14 Try.ntmps68 [a0] [a0, .any, .any, .any, .any, .any, .any, .any, .any, .any, .any, .any, .any, .any] H Q h 13 (by kernel_rfl) (by kernel_rfl)

/-- laws.toDemandS -/
def C16 : CC :=
 (.seq (.ops [⟨some 2, none, .mv (.const (.slice none 0 0))⟩])
 (.seq (.ops [⟨some 5, none, .mv (.tmp 0)⟩,
   ⟨some 6, none, .len false (.tmp 5)⟩,
   ⟨some 7, none, .mks [.string ⟨#[]⟩, .int .i64 0, .int .i64 0] 32 (.tmp 6)⟩,
   ⟨some 3, none, .mv (.tmp 7)⟩])
 (.seq (.seq (.ops [⟨some 4, none, .mv (.const (.int .i64 0))⟩])
  (.block 0 (.loop (.seq (.seq (.ops [⟨some 8, none, .mv (.tmp 4)⟩,
       ⟨some 9, none, .mv (.tmp 0)⟩,
       ⟨some 10, none, .len false (.tmp 9)⟩,
       ⟨some 11, none, .bin .lss 0 (.tmp 8) (.tmp 10)⟩])
     (.cond (.tmp 11) .skip
     (.exit 0)))
    (.seq (.block 1 (.ops [⟨some 14, none, .mv (.tmp 3)⟩,
       ⟨some 15, none, .mv (.tmp 4)⟩,
       ⟨some 16, none, .mv (.tmp 0)⟩,
       ⟨some 17, none, .mv (.tmp 4)⟩,
       ⟨some 18, none, .ia 3 (.tmp 16) (.tmp 17)⟩,
       ⟨some 19, none, .load true 3 (.tmp 18)⟩,
       ⟨some 20, none, .call (.func 68) [(.tmp 19)]⟩,
       ⟨some 21, none, .ia 3 (.tmp 14) (.tmp 15)⟩,
       ⟨none, none, .store 3 (.tmp 21) (.tmp 20)⟩]))
    (.ops [⟨some 12, none, .mv (.tmp 4)⟩,
     ⟨some 13, none, .bin .add 0 (.tmp 12) (.const (.int .i64 1))⟩,
     ⟨some 4, none, .mv (.tmp 13)⟩]))))))
 (.seq (.ops [⟨some 22, none, .mv (.tmp 3)⟩,
   ⟨some 2, none, .mv (.tmp 22)⟩])
 .ret))))
theorem C16_ok : Try.f16.body.bind (comp Try.prog) = some C16 := by kernel_rfl
theorem C16_res : compRs Try.prog Try.f16.results.toList = some [.tmp 2] := by kernel_rfl
theorem C16_nm : (Try.f16.name == "runtime.NumGoroutine") = false := by kernel_rfl
theorem C16_fn {a0 : AV} {H : Heap} {Q : AV → Heap → Prop} (h : vc Try.prog C16 (vcEnd [.tmp 2] Q) H [a0, .any, .any, .any, .any, .any, .any, .any, .any, .any, .any, .any, .any, .any, .any, .any, .any, .any, .any, .any, .any, .any, .any]) : Runs Try.prog 16 [a0] H Q :=
  @fn_go Try.prog mixed 16 Try.f16 C16 [.tmp 2] Try.func16 C16_ok C16_res C16_nm 23 Try.ntmps16 [a0] [a0, .any, .any, .any, .any, .any, .any, .any, .any, .any, .any, .any, .any, .any, .any, .any, .any, .any, .any, .any, .any, .any, .any] H Q h 22 (by kernel_rfl) (by kernel_rfl)

/-- slices.IndexFunc[[]impl.Demand,impl.Demand] -/
def C155 : CC :=
 (.seq (.ops [⟨some 4, none, .mv (.const (.int .i64 0))⟩])
 (.seq (.seq (.ops [⟨some 6, none, .mv (.tmp 0)⟩,
    ⟨some 7, none, .len false (.tmp 6)⟩,
    ⟨some 8, none, .mv (.const (.int .i64 0))⟩])
  (.block 0 (.loop (.seq (.ops [⟨some 9, none, .bin .lss 0 (.tmp 8) (.tmp 7)⟩])
    (.seq (.cond (.tmp 9) .skip
     (.exit 0))
    (.seq (.block 1 (.seq (.ops [⟨some 10, none, .mv (.tmp 8)⟩,
        ⟨some 5, none, .mv (.tmp 10)⟩])
      (.seq (.ops [⟨some 11, none, .mv (.tmp 1)⟩,
        ⟨some 12, none, .mv (.tmp 0)⟩,
        ⟨some 13, none, .mv (.tmp 5)⟩,
        ⟨some 14, none, .ia 3 (.tmp 12) (.tmp 13)⟩,
        ⟨some 15, none, .load true 3 (.tmp 14)⟩,
        ⟨some 16, none, .call (.tmp 11) [(.tmp 15)]⟩])
      (.cond (.tmp 16) (.seq (.ops [⟨some 17, none, .mv (.tmp 5)⟩,
         ⟨some 4, none, .mv (.tmp 17)⟩])
       .ret)
      .skip))))
    (.ops [⟨some 18, none, .bin .add 0 (.tmp 8) (.const (.int .i64 1))⟩,
     ⟨some 8, none, .mv (.tmp 18)⟩])))))))
 (.seq (.ops [⟨some 4, none, .mv (.const (.int .i64 (-1)))⟩])
 .ret)))
theorem C155_ok : Try.f155.body.bind (comp Try.prog) = some C155 := by kernel_rfl
theorem C155_res : compRs Try.prog Try.f155.results.toList = some [.tmp 4] := by kernel_rfl
theorem C155_nm : (Try.f155.name == "runtime.NumGoroutine") = false := by kernel_rfl
theorem C155_fn {a0 a1 : AV} {H : Heap} {Q : AV → Heap → Prop} (h : vc Try.prog C155 (vcEnd [.tmp 4] Q) H [a0, a1, .any, .any, .any, .any, .any, .any, .any, .any, .any, .any, .any, .any, .any, .any, .any, .any, .any]) : Runs Try.prog 155 [a0, a1] H Q :=
  @fn_go Try.prog mixed 155 Try.f155 C155 [.tmp 4] Try.func155 C155_ok C155_res C155_nm 19 Try.ntmps155 [a0, a1] [a0, a1, .any, .any, .any, .any, .any, .any, .any, .any, .any, .any, .any, .any, .any, .any, .any, .any, .any] H Q h 17 (by kernel_rfl) (by kernel_rfl)

/-- slices.ContainsFunc[[]impl.Demand,impl.Demand] -/
def C152 : CC :=
 (.seq (.ops [⟨some 4, none, .mv (.const (.bool false))⟩])
 (.seq (.ops [⟨some 5, none, .mv (.tmp 0)⟩,
   ⟨some 6, none, .mv (.tmp 1)⟩,
   ⟨some 7, none, .call (.func 155) [(.tmp 5), (.tmp 6)]⟩,
   ⟨some 8, none, .bin .geq 0 (.tmp 7) (.const (.int .i64 0))⟩,
   ⟨some 4, none, .mv (.tmp 8)⟩])
 .ret))
theorem C152_ok : Try.f152.body.bind (comp Try.prog) = some C152 := by kernel_rfl
theorem C152_res : compRs Try.prog Try.f152.results.toList = some [.tmp 4] := by kernel_rfl
theorem C152_nm : (Try.f152.name == "runtime.NumGoroutine") = false := by kernel_rfl
theorem C152_fn {a0 a1 : AV} {H : Heap} {Q : AV → Heap → Prop} (h : vc Try.prog C152 (vcEnd [.tmp 4] Q) H [a0, a1, .any, .any, .any, .any, .any, .any, .any]) : Runs Try.prog 152 [a0, a1] H Q :=
  @fn_go Try.prog mixed 152 Try.f152 C152 [.tmp 4] Try.func152 C152_ok C152_res C152_nm 9 Try.ntmps152 [a0, a1] [a0, a1, .any, .any, .any, .any, .any, .any, .any] H Q h 7 (by kernel_rfl) (by kernel_rfl)

/-- impl.all[impl.Demand]$1 -/
def C153 : CC :=
 (.seq (.ops [⟨some 2, none, .box (.tmp 0)⟩,
   ⟨some 3, none, .mv (.const (.bool false))⟩])
 (.seq (.ops [⟨some 4, none, .load false 1 (.tmp 1)⟩,
   ⟨some 5, none, .load true 3 (.tmp 2)⟩,
   ⟨some 6, none, .call (.tmp 4) [(.tmp 5)]⟩,
   ⟨some 7, none, .not (.tmp 6)⟩,
   ⟨some 3, none, .mv (.tmp 7)⟩])
 .ret))
theorem C153_ok : Try.f153.body.bind (comp Try.prog) = some C153 := by kernel_rfl
theorem C153_res : compRs Try.prog Try.f153.results.toList = some [.tmp 3] := by kernel_rfl
theorem C153_nm : (Try.f153.name == "runtime.NumGoroutine") = false := by kernel_rfl
theorem C153_fn {a0 a1 : AV} {H : Heap} {Q : AV → Heap → Prop} (h : vc Try.prog C153 (vcEnd [.tmp 3] Q) H [a0, a1, .any, .any, .any, .any, .any, .any]) : Runs Try.prog 153 [a0, a1] H Q :=
  @fn_go Try.prog mixed 153 Try.f153 C153 [.tmp 3] Try.func153 C153_ok C153_res C153_nm 8 Try.ntmps153 [a0, a1] [a0, a1, .any, .any, .any, .any, .any, .any] H Q h 6 (by kernel_rfl) (by kernel_rfl)

/-- impl.all[impl.Demand] -/
def C128 : CC :=
 (.seq (.ops [⟨some 3, none, .box (.tmp 1)⟩,
   ⟨some 4, none, .mv (.const (.bool false))⟩])
 (.seq (.ops [⟨some 5, none, .mv (.tmp 0)⟩,
   ⟨some 6, none, .mkf 153 [(.tmp 3)]⟩,
   ⟨some 7, none, .call (.func 152) [(.tmp 5), (.tmp 6)]⟩,
   ⟨some 8, none, .not (.tmp 7)⟩,
   ⟨some 4, none, .mv (.tmp 8)⟩])
 .ret))
theorem C128_ok : Try.f128.body.bind (comp Try.prog) = some C128 := by kernel_rfl
theorem C128_res : compRs Try.prog Try.f128.results.toList = some [.tmp 4] := by kernel_rfl
theorem C128_nm : (Try.f128.name == "runtime.NumGoroutine") = false := by kernel_rfl
theorem C128_fn {a0 a1 : AV} {H : Heap} {Q : AV → Heap → Prop} (h : vc Try.prog C128 (vcEnd [.tmp 4] Q) H [a0, a1, .any, .any, .any, .any, .any, .any, .any]) : Runs Try.prog 128 [a0, a1] H Q :=
  @fn_go Try.prog mixed 128 Try.f128 C128 [.tmp 4] Try.func128 C128_ok C128_res C128_nm 9 Try.ntmps128 [a0, a1] [a0, a1, .any, .any, .any, .any, .any, .any, .any] H Q h 7 (by kernel_rfl) (by kernel_rfl)

/-- impl.in -/
def C77 : CC :=
 (.seq (.ops [⟨some 6, none, .mv (.const (.bool false))⟩])
 (.seq (.ops [⟨some 7, none, .mv (.tmp 0)⟩,
   ⟨some 8, none, .mv (.tmp 1)⟩,
   ⟨some 9, none, .bin .geq 0 (.tmp 7) (.tmp 8)⟩,
   ⟨some 10, none, .mv (.tmp 9)⟩,
   ⟨some 11, some (10, true), .mv (.tmp 0)⟩,
   ⟨some 12, some (10, true), .mv (.tmp 2)⟩,
   ⟨some 13, some (10, true), .bin .leq 0 (.tmp 11) (.tmp 12)⟩,
   ⟨some 14, none, .pick (.tmp 10) (.tmp 13) (.const (.bool false))⟩,
   ⟨some 6, none, .mv (.tmp 14)⟩])
 .ret))
theorem C77_ok : Try.f77.body.bind (comp Try.prog) = some C77 := by kernel_rfl
theorem C77_res : compRs Try.prog Try.f77.results.toList = some [.tmp 6] := by kernel_rfl
theorem C77_nm : (Try.f77.name == "runtime.NumGoroutine") = false := by kernel_rfl
theorem C77_fn {a0 a1 a2 : AV} {H : Heap} {Q : AV → Heap → Prop} (h : vc Try.prog C77 (vcEnd [.tmp 6] Q) H [a0, a1, a2, .any, .any, .any, .any, .any, .any, .any, .any, .any, .any, .any, .any]) : Runs Try.prog 77 [a0, a1, a2] H Q :=
  @fn_go Try.prog mixed 77 Try.f77 C77 [.tmp 6] Try.func77 C77_ok C77_res C77_nm 15 Try.ntmps77 [a0, a1, a2] [a0, a1, a2, .any, .any, .any, .any, .any, .any, .any, .any, .any, .any, .any, .any] H Q h 12 (by kernel_rfl) (by kernel_rfl)

/-- impl.isRank -/
def C84 : CC :=
 (.seq (.ops [⟨some 2, none, .mv (.const (.bool false))⟩])
 (.seq (.ops [⟨some 3, none, .mv (.tmp 0)⟩,
   ⟨some 4, none, .call (.func 77) [(.tmp 3), (.const (.int .i64 1)), (.const (.int .i64 5))]⟩,
   ⟨some 2, none, .mv (.tmp 4)⟩])
 .ret))
theorem C84_ok : Try.f84.body.bind (comp Try.prog) = some C84 := by kernel_rfl
theorem C84_res : compRs Try.prog Try.f84.results.toList = some [.tmp 2] := by kernel_rfl
theorem C84_nm : (Try.f84.name == "runtime.NumGoroutine") = false := by kernel_rfl
theorem C84_fn {a0 : AV} {H : Heap} {Q : AV → Heap → Prop} (h : vc Try.prog C84 (vcEnd [.tmp 2] Q) H [a0, .any, .any, .any, .any]) : Runs Try.prog 84 [a0] H Q :=
  @fn_go Try.prog mixed 84 Try.f84 C84 [.tmp 2] Try.func84 C84_ok C84_res C84_nm 5 Try.ntmps84 [a0] [a0, .any, .any, .any, .any] H Q h 4 (by kernel_rfl) (by kernel_rfl)

/-- impl.IsAmount -/
def C89 : CC :=
 (.seq (.ops [⟨some 2, none, .mv (.const (.bool false))⟩])
 (.seq (.ops [⟨some 3, none, .mv (.tmp 0)⟩,
   ⟨some 4, none, .call (.func 77) [(.tmp 3), (.const (.int .i64 0)), (.const (.int .i64 1000000000))]⟩,
   ⟨some 2, none, .mv (.tmp 4)⟩])
 .ret))
theorem C89_ok : Try.f89.body.bind (comp Try.prog) = some C89 := by kernel_rfl
theorem C89_res : compRs Try.prog Try.f89.results.toList = some [.tmp 2] := by kernel_rfl
theorem C89_nm : (Try.f89.name == "runtime.NumGoroutine") = false := by kernel_rfl
theorem C89_fn {a0 : AV} {H : Heap} {Q : AV → Heap → Prop} (h : vc Try.prog C89 (vcEnd [.tmp 2] Q) H [a0, .any, .any, .any, .any]) : Runs Try.prog 89 [a0] H Q :=
  @fn_go Try.prog mixed 89 Try.f89 C89 [.tmp 2] Try.func89 C89_ok C89_res C89_nm 5 Try.ntmps89 [a0] [a0, .any, .any, .any, .any] H Q h 4 (by kernel_rfl) (by kernel_rfl)

/-- impl.spelled -/
def C151 : CC :=
 (.seq (.ops [⟨some 10, none, .mv (.const (.bool false))⟩])
 (.seq (.seq (.ops [⟨some 12, none, .mv (.tmp 0)⟩,
    ⟨some 13, none, .len true (.tmp 12)⟩,
    ⟨some 14, none, .mv (.const (.int .i64 0))⟩])
  (.block 0 (.loop (.seq (.ops [⟨some 15, none, .bin .lss 0 (.tmp 14) (.tmp 13)⟩])
    (.seq (.cond (.tmp 15) .skip
     (.exit 0))
    (.seq (.block 1 (.seq (.ops [⟨some 16, none, .mv (.tmp 14)⟩,
        ⟨some 11, none, .mv (.tmp 16)⟩])
      (.seq (.ops [⟨some 17, none, .mv (.tmp 0)⟩,
        ⟨some 18, none, .mv (.tmp 11)⟩,
        ⟨some 19, none, .idx (.tmp 17) (.tmp 18)⟩,
        ⟨some 20, none, .mv (.tmp 3)⟩,
        ⟨some 21, none, .bin .lss 0 (.tmp 19) (.tmp 20)⟩,
        ⟨some 22, none, .mv (.tmp 21)⟩,
        ⟨some 23, some (22, false), .mv (.tmp 0)⟩,
        ⟨some 24, some (22, false), .mv (.tmp 11)⟩,
        ⟨some 25, some (22, false), .idx (.tmp 23) (.tmp 24)⟩,
        ⟨some 26, some (22, false), .mv (.tmp 4)⟩,
        ⟨some 27, some (22, false), .bin .gtr 0 (.tmp 25) (.tmp 26)⟩,
        ⟨some 28, none, .pick (.tmp 22) (.const (.bool true)) (.tmp 27)⟩])
      (.cond (.tmp 28) (.seq (.ops [⟨some 10, none, .mv (.const (.bool false))⟩])
       .ret)
      .skip))))
    (.ops [⟨some 29, none, .bin .add 0 (.tmp 14) (.const (.int .i64 1))⟩,
     ⟨some 14, none, .mv (.tmp 29)⟩])))))))
 (.seq (.ops [⟨some 30, none, .mv (.tmp 0)⟩,
   ⟨some 31, none, .len true (.tmp 30)⟩,
   ⟨some 32, none, .mv (.tmp 1)⟩,
   ⟨some 33, none, .bin .geq 0 (.tmp 31) (.tmp 32)⟩,
   ⟨some 34, none, .mv (.tmp 33)⟩,
   ⟨some 35, some (34, true), .mv (.tmp 0)⟩,
   ⟨some 36, some (34, true), .len true (.tmp 35)⟩,
   ⟨some 37, some (34, true), .mv (.tmp 2)⟩,
   ⟨some 38, some (34, true), .bin .leq 0 (.tmp 36) (.tmp 37)⟩,
   ⟨some 39, none, .pick (.tmp 34) (.tmp 38) (.const (.bool false))⟩,
   ⟨some 10, none, .mv (.tmp 39)⟩])
 .ret)))
theorem C151_ok : Try.f151.body.bind (comp Try.prog) = some C151 := by kernel_rfl
theorem C151_res : compRs Try.prog Try.f151.results.toList = some [.tmp 10] := by kernel_rfl
theorem C151_nm : (Try.f151.name == "runtime.NumGoroutine") = false := by kernel_rfl
theorem C151_fn {a0 a1 a2 a3 a4 : AV} {H : Heap} {Q : AV → Heap → Prop} (h : vc Try.prog C151 (vcEnd [.tmp 10] Q) H [a0, a1, a2, a3, a4, .any, .any, .any, .any, .any, .any, .any, .any, .any, .any, .any, .any, .any, .any, .any, .any, .any, .any, .any, .any, .any, .any, .any, .any, .any, .any, .any, .any, .any, .any, .any, .any, .any, .any, .any]) : Runs Try.prog 151 [a0, a1, a2, a3, a4] H Q :=
  @fn_go Try.prog mixed 151 Try.f151 C151 [.tmp 10] Try.func151 C151_ok C151_res C151_nm 40 Try.ntmps151 [a0, a1, a2, a3, a4] [a0, a1, a2, a3, a4, .any, .any, .any, .any, .any, .any, .any, .any, .any, .any, .any, .any, .any, .any, .any, .any, .any, .any, .any, .any, .any, .any, .any, .any, .any, .any, .any, .any, .any, .any, .any, .any, .any, .any, .any] H Q h 35 (by kernel_rfl) (by kernel_rfl)

/-- impl.IsPartyCode -/
def C127 : CC :=
 (.seq (.ops [⟨some 2, none, .mv (.const (.bool false))⟩])
 (.seq (.ops [⟨some 3, none, .mv (.tmp 0)⟩,
   ⟨some 4, none, .call (.func 151) [(.tmp 3), (.const (.int .i64 1)), (.const (.int .i64 6)), (.const (.int .u8 97)), (.const (.int .u8 122))]⟩,
   ⟨some 2, none, .mv (.tmp 4)⟩])
 .ret))
theorem C127_ok : Try.f127.body.bind (comp Try.prog) = some C127 := by kernel_rfl
theorem C127_res : compRs Try.prog Try.f127.results.toList = some [.tmp 2] := by kernel_rfl
theorem C127_nm : (Try.f127.name == "runtime.NumGoroutine") = false := by kernel_rfl
theorem C127_fn {a0 : AV} {H : Heap} {Q : AV → Heap → Prop} (h : vc Try.prog C127 (vcEnd [.tmp 2] Q) H [a0, .any, .any, .any, .any]) : Runs Try.prog 127 [a0] H Q :=
  @fn_go Try.prog mixed 127 Try.f127 C127 [.tmp 2] Try.func127 C127_ok C127_res C127_nm 5 Try.ntmps127 [a0] [a0, .any, .any, .any, .any] H Q h 4 (by kernel_rfl) (by kernel_rfl)

/-- impl.AreDemands$1 -/
def C129 : CC :=
 (.seq (.ops [⟨some 1, none, .box (.tmp 0)⟩,
   ⟨some 2, none, .mv (.const (.bool false))⟩])
 (.seq (.ops [⟨some 3, none, .fa 0 (.tmp 1)⟩,
   ⟨some 4, none, .load false 1 (.tmp 3)⟩,
   ⟨some 5, none, .call (.func 127) [(.tmp 4)]⟩,
   ⟨some 6, none, .mv (.tmp 5)⟩,
   ⟨some 7, some (6, true), .fa 1 (.tmp 1)⟩,
   ⟨some 8, some (6, true), .load false 1 (.tmp 7)⟩,
   ⟨some 9, some (6, true), .call (.func 84) [(.tmp 8)]⟩,
   ⟨some 10, none, .pick (.tmp 6) (.tmp 9) (.const (.bool false))⟩,
   ⟨some 11, none, .mv (.tmp 10)⟩,
   ⟨some 12, some (11, true), .fa 2 (.tmp 1)⟩,
   ⟨some 13, some (11, true), .load false 1 (.tmp 12)⟩,
   ⟨some 14, some (11, true), .call (.func 89) [(.tmp 13)]⟩,
   ⟨some 15, none, .pick (.tmp 11) (.tmp 14) (.const (.bool false))⟩,
   ⟨some 2, none, .mv (.tmp 15)⟩])
 .ret))
theorem C129_ok : Try.f129.body.bind (comp Try.prog) = some C129 := by kernel_rfl
theorem C129_res : compRs Try.prog Try.f129.results.toList = some [.tmp 2] := by kernel_rfl
theorem C129_nm : (Try.f129.name == "runtime.NumGoroutine") = false := by kernel_rfl
theorem C129_fn {a0 : AV} {H : Heap} {Q : AV → Heap → Prop} (h : vc Try.prog C129 (vcEnd [.tmp 2] Q) H [a0, .any, .any, .any, .any, .any, .any, .any, .any, .any, .any, .any, .any, .any, .any, .any]) : Runs Try.prog 129 [a0] H Q :=
  @fn_go Try.prog mixed 129 Try.f129 C129 [.tmp 2] Try.func129 C129_ok C129_res C129_nm 16 Try.ntmps129 [a0] [a0, .any, .any, .any, .any, .any, .any, .any, .any, .any, .any, .any, .any, .any, .any, .any] H Q h 15 (by kernel_rfl) (by kernel_rfl)

/-- impl.rising[impl.Demand] -/
def C130 : CC :=
 (.seq (.ops [⟨some 4, none, .mv (.const (.bool false))⟩])
 (.seq (.seq (.ops [⟨some 5, none, .mv (.const (.int .i64 1))⟩])
  (.block 0 (.loop (.seq (.seq (.ops [⟨some 6, none, .mv (.tmp 5)⟩,
       ⟨some 7, none, .mv (.tmp 0)⟩,
       ⟨some 8, none, .len false (.tmp 7)⟩,
       ⟨some 9, none, .bin .lss 0 (.tmp 6) (.tmp 8)⟩])
     (.cond (.tmp 9) .skip
     (.exit 0)))
    (.seq (.block 1 (.seq (.draw 12 [⟨some 12, none, .mv (.tmp 1)⟩,
        ⟨some 13, none, .mv (.tmp 0)⟩,
        ⟨some 14, none, .mv (.tmp 5)⟩,
        ⟨some 15, none, .bin .sub 0 (.tmp 14) (.const (.int .i64 1))⟩,
        ⟨some 16, none, .ia 3 (.tmp 13) (.tmp 15)⟩,
        ⟨some 17, none, .load true 3 (.tmp 16)⟩,
        ⟨some 18, none, .mv (.tmp 0)⟩,
        ⟨some 19, none, .mv (.tmp 5)⟩,
        ⟨some 20, none, .ia 3 (.tmp 18) (.tmp 19)⟩,
        ⟨some 21, none, .load true 3 (.tmp 20)⟩,
        ⟨some 22, none, .call (.tmp 12) [(.tmp 17), (.tmp 21)]⟩,
        ⟨some 23, none, .bin .geq 0 (.tmp 22) (.const (.int .i64 0))⟩])
      (.cond (.tmp 23) (.seq (.ops [⟨some 4, none, .mv (.const (.bool false))⟩])
       .ret)
      .skip)))
    (.ops [⟨some 10, none, .mv (.tmp 5)⟩,
     ⟨some 11, none, .bin .add 0 (.tmp 10) (.const (.int .i64 1))⟩,
     ⟨some 5, none, .mv (.tmp 11)⟩]))))))
 (.seq (.ops [⟨some 4, none, .mv (.const (.bool true))⟩])
 .ret)))
theorem C130_ok : Try.f130.body.bind (comp Try.prog) = some C130 := by kernel_rfl
theorem C130_res : compRs Try.prog Try.f130.results.toList = some [.tmp 4] := by kernel_rfl
theorem C130_nm : (Try.f130.name == "runtime.NumGoroutine") = false := by kernel_rfl
theorem C130_fn {a0 a1 : AV} {H : Heap} {Q : AV → Heap → Prop} (h : vc Try.prog C130 (vcEnd [.tmp 4] Q) H [a0, a1, .any, .any, .any, .any, .any, .any, .any, .any, .any, .any, .any, .any, .any, .any, .any, .any, .any, .any, .any, .any, .any, .any]) : Runs Try.prog 130 [a0, a1] H Q :=
  @fn_go Try.prog mixed 130 Try.f130 C130 [.tmp 4] Try.func130 C130_ok C130_res C130_nm 24 Try.ntmps130 [a0, a1] [a0, a1, .any, .any, .any, .any, .any, .any, .any, .any, .any, .any, .any, .any, .any, .any, .any, .any, .any, .any, .any, .any, .any, .any] H Q h 22 (by kernel_rfl) (by kernel_rfl)

/-- internal/bytealg.CompareString -/
def C154 : CC :=
 (.seq (.ops [⟨some 4, none, .mv (.const (.int .i64 0))⟩])
 (.seq (.ops [⟨some 5, none, .mv (.tmp 0)⟩,
   ⟨some 6, none, .mv (.tmp 1)⟩,
   ⟨some 7, none, .call (.func 170) [(.tmp 5), (.tmp 6)]⟩,
   ⟨some 4, none, .mv (.tmp 7)⟩])
 .ret))
theorem C154_ok : Try.f154.body.bind (comp Try.prog) = some C154 := by kernel_rfl
theorem C154_res : compRs Try.prog Try.f154.results.toList = some [.tmp 4] := by kernel_rfl
theorem C154_nm : (Try.f154.name == "runtime.NumGoroutine") = false := by kernel_rfl
theorem C154_fn {a0 a1 : AV} {H : Heap} {Q : AV → Heap → Prop} (h : vc Try.prog C154 (vcEnd [.tmp 4] Q) H [a0, a1, .any, .any, .any, .any, .any, .any]) : Runs Try.prog 154 [a0, a1] H Q :=
  @fn_go Try.prog mixed 154 Try.f154 C154 [.tmp 4] Try.func154 C154_ok C154_res C154_nm 8 Try.ntmps154 [a0, a1] [a0, a1, .any, .any, .any, .any, .any, .any] H Q h 6 (by kernel_rfl) (by kernel_rfl)

/-- strings.Compare -/
def C132 : CC :=
 (.seq (.ops [⟨some 4, none, .mv (.const (.int .i64 0))⟩])
 (.seq (.ops [⟨some 5, none, .mv (.tmp 0)⟩,
   ⟨some 6, none, .mv (.tmp 1)⟩,
   ⟨some 7, none, .call (.func 154) [(.tmp 5), (.tmp 6)]⟩,
   ⟨some 4, none, .mv (.tmp 7)⟩])
 .ret))
theorem C132_ok : Try.f132.body.bind (comp Try.prog) = some C132 := by kernel_rfl
theorem C132_res : compRs Try.prog Try.f132.results.toList = some [.tmp 4] := by kernel_rfl
theorem C132_nm : (Try.f132.name == "runtime.NumGoroutine") = false := by kernel_rfl
theorem C132_fn {a0 a1 : AV} {H : Heap} {Q : AV → Heap → Prop} (h : vc Try.prog C132 (vcEnd [.tmp 4] Q) H [a0, a1, .any, .any, .any, .any, .any, .any]) : Runs Try.prog 132 [a0, a1] H Q :=
  @fn_go Try.prog mixed 132 Try.f132 C132 [.tmp 4] Try.func132 C132_ok C132_res C132_nm 8 Try.ntmps132 [a0, a1] [a0, a1, .any, .any, .any, .any, .any, .any] H Q h 6 (by kernel_rfl) (by kernel_rfl)

/-- impl.AreDemands$2 -/
def C131 : CC :=
 (.seq (.ops [⟨some 2, none, .box (.tmp 0)⟩,
   ⟨some 3, none, .box (.tmp 1)⟩,
   ⟨some 4, none, .mv (.const (.int .i64 0))⟩])
 (.seq (.ops [⟨some 5, none, .fa 0 (.tmp 2)⟩,
   ⟨some 6, none, .load false 1 (.tmp 5)⟩,
   ⟨some 7, none, .fa 0 (.tmp 3)⟩,
   ⟨some 8, none, .load false 1 (.tmp 7)⟩,
   ⟨some 9, none, .call (.func 132) [(.tmp 6), (.tmp 8)]⟩,
   ⟨some 4, none, .mv (.tmp 9)⟩])
 .ret))
theorem C131_ok : Try.f131.body.bind (comp Try.prog) = some C131 := by kernel_rfl
theorem C131_res : compRs Try.prog Try.f131.results.toList = some [.tmp 4] := by kernel_rfl
theorem C131_nm : (Try.f131.name == "runtime.NumGoroutine") = false := by kernel_rfl
theorem C131_fn {a0 a1 : AV} {H : Heap} {Q : AV → Heap → Prop} (h : vc Try.prog C131 (vcEnd [.tmp 4] Q) H [a0, a1, .any, .any, .any, .any, .any, .any, .any, .any]) : Runs Try.prog 131 [a0, a1] H Q :=
  @fn_go Try.prog mixed 131 Try.f131 C131 [.tmp 4] Try.func131 C131_ok C131_res C131_nm 10 Try.ntmps131 [a0, a1] [a0, a1, .any, .any, .any, .any, .any, .any, .any, .any] H Q h 8 (by kernel_rfl) (by kernel_rfl)

/-- impl.AreDemands -/
def C83 : CC :=
 (.seq (.ops [⟨some 2, none, .mv (.const (.bool false))⟩])
 (.seq (.ops [⟨some 4, none, .mv (.tmp 0)⟩,
   ⟨some 5, none, .call (.func 128) [(.tmp 4), (.func 129)]⟩,
   ⟨some 3, none, .mv (.tmp 5)⟩])
 (.seq (.ops [⟨some 6, none, .mv (.tmp 0)⟩,
   ⟨some 7, none, .len false (.tmp 6)⟩,
   ⟨some 8, none, .bin .leq 0 (.tmp 7) (.const (.int .i64 12))⟩,
   ⟨some 9, none, .mv (.tmp 8)⟩,
   ⟨some 10, some (9, true), .mv (.tmp 3)⟩,
   ⟨some 11, none, .pick (.tmp 9) (.tmp 10) (.const (.bool false))⟩,
   ⟨some 12, none, .mv (.tmp 11)⟩,
   ⟨some 13, some (12, true), .mv (.tmp 0)⟩,
   ⟨some 14, some (12, true), .call (.func 130) [(.tmp 13), (.func 131)]⟩,
   ⟨some 15, none, .pick (.tmp 12) (.tmp 14) (.const (.bool false))⟩,
   ⟨some 2, none, .mv (.tmp 15)⟩])
 .ret)))
theorem C83_ok : Try.f83.body.bind (comp Try.prog) = some C83 := by kernel_rfl
theorem C83_res : compRs Try.prog Try.f83.results.toList = some [.tmp 2] := by kernel_rfl
theorem C83_nm : (Try.f83.name == "runtime.NumGoroutine") = false := by kernel_rfl
theorem C83_fn {a0 : AV} {H : Heap} {Q : AV → Heap → Prop} (h : vc Try.prog C83 (vcEnd [.tmp 2] Q) H [a0, .any, .any, .any, .any, .any, .any, .any, .any, .any, .any, .any, .any, .any, .any, .any]) : Runs Try.prog 83 [a0] H Q :=
  @fn_go Try.prog mixed 83 Try.f83 C83 [.tmp 2] Try.func83 C83_ok C83_res C83_nm 16 Try.ntmps83 [a0] [a0, .any, .any, .any, .any, .any, .any, .any, .any, .any, .any, .any, .any, .any, .any, .any] H Q h 15 (by kernel_rfl) (by kernel_rfl)

/-- impl.demanded -/
def C69 : CC :=
 (.seq (.ops [⟨some 4, none, .mv (.const (.int .i64 0))⟩])
 (.seq (.block 0 (.seq (.ops [⟨some 6, none, .mv (.tmp 0)⟩,
     ⟨some 7, none, .call (.func 83) [(.tmp 6)]⟩,
     ⟨some 8, none, .not (.tmp 7)⟩,
     ⟨some 5, none, .mv (.tmp 8)⟩])
   (.cond (.tmp 5) (.seq (.ops [⟨some 4, none, .mv (.const (.int .i64 1))⟩])
    .ret)
   (.seq (.ops [⟨some 10, none, .mv (.tmp 1)⟩,
      ⟨some 11, none, .call (.func 89) [(.tmp 10)]⟩,
      ⟨some 12, none, .not (.tmp 11)⟩,
      ⟨some 9, none, .mv (.tmp 12)⟩])
    (.cond (.tmp 9) (.seq (.ops [⟨some 4, none, .mv (.const (.int .i64 2))⟩])
     .ret)
    .skip)))))
 (.seq (.ops [⟨some 4, none, .mv (.const (.int .i64 0))⟩])
 .ret)))
theorem C69_ok : Try.f69.body.bind (comp Try.prog) = some C69 := by kernel_rfl
theorem C69_res : compRs Try.prog Try.f69.results.toList = some [.tmp 4] := by kernel_rfl
theorem C69_nm : (Try.f69.name == "runtime.NumGoroutine") = false := by kernel_rfl
theorem C69_fn {a0 a1 : AV} {H : Heap} {Q : AV → Heap → Prop} (h : vc Try.prog C69 (vcEnd [.tmp 4] Q) H [a0, a1, .any, .any, .any, .any, .any, .any, .any, .any, .any, .any, .any]) : Runs Try.prog 69 [a0, a1] H Q :=
  @fn_go Try.prog mixed 69 Try.f69 C69 [.tmp 4] Try.func69 C69_ok C69_res C69_nm 13 Try.ntmps69 [a0, a1] [a0, a1, .any, .any, .any, .any, .any, .any, .any, .any, .any, .any, .any] H Q h 11 (by kernel_rfl) (by kernel_rfl)

/-- impl.asked -/
def C70 : CC :=
 (.seq (.ops [⟨some 6, none, .mv (.const (.int .i64 0))⟩])
 (.seq (.ops [⟨some 7, none, .mv (.const (.int .i64 0))⟩])
 (.seq (.seq (.ops [⟨some 10, none, .mv (.tmp 0)⟩,
    ⟨some 11, none, .len false (.tmp 10)⟩,
    ⟨some 12, none, .mv (.const (.int .i64 0))⟩])
  (.block 0 (.loop (.seq (.ops [⟨some 13, none, .bin .lss 0 (.tmp 12) (.tmp 11)⟩])
    (.seq (.cond (.tmp 13) .skip
     (.exit 0))
    (.seq (.block 1 (.seq (.ops [⟨some 14, none, .ia 3 (.tmp 10) (.tmp 12)⟩,
        ⟨some 15, none, .load true 3 (.tmp 14)⟩,
        ⟨some 9, none, .alloc [.string ⟨#[]⟩, .int .i64 0, .int .i64 0]⟩,
        ⟨none, none, .store 3 (.tmp 9) (.tmp 15)⟩])
      (.seq (.ops [⟨some 16, none, .fa 1 (.tmp 9)⟩,
        ⟨some 17, none, .load false 1 (.tmp 16)⟩,
        ⟨some 18, none, .mv (.tmp 1)⟩,
        ⟨some 19, none, .mv (.tmp 2)⟩,
        ⟨some 20, none, .call (.func 77) [(.tmp 17), (.tmp 18), (.tmp 19)]⟩])
      (.cond (.tmp 20) (.ops [⟨some 21, none, .mv (.tmp 7)⟩,
        ⟨some 22, none, .fa 2 (.tmp 9)⟩,
        ⟨some 23, none, .load false 1 (.tmp 22)⟩,
        ⟨some 24, none, .bin .add 0 (.tmp 21) (.tmp 23)⟩,
        ⟨some 7, none, .mv (.tmp 24)⟩])
      .skip))))
    (.ops [⟨some 25, none, .bin .add 0 (.tmp 12) (.const (.int .i64 1))⟩,
     ⟨some 12, none, .mv (.tmp 25)⟩])))))))
 (.seq (.ops [⟨some 26, none, .mv (.tmp 7)⟩,
   ⟨some 6, none, .mv (.tmp 26)⟩])
 .ret))))
theorem C70_ok : Try.f70.body.bind (comp Try.prog) = some C70 := by kernel_rfl
theorem C70_res : compRs Try.prog Try.f70.results.toList = some [.tmp 6] := by kernel_rfl
theorem C70_nm : (Try.f70.name == "runtime.NumGoroutine") = false := by kernel_rfl
theorem C70_fn {a0 a1 a2 : AV} {H : Heap} {Q : AV → Heap → Prop} (h : vc Try.prog C70 (vcEnd [.tmp 6] Q) H [a0, a1, a2, .any, .any, .any, .any, .any, .any, .any, .any, .any, .any, .any, .any, .any, .any, .any, .any, .any, .any, .any, .any, .any, .any, .any, .any]) : Runs Try.prog 70 [a0, a1, a2] H Q :=
  @fn_go Try.prog mixed 70 Try.f70 C70 [.tmp 6] Try.func70 C70_ok C70_res C70_nm 27 Try.ntmps70 [a0, a1, a2] [a0, a1, a2, .any, .any, .any, .any, .any, .any, .any, .any, .any, .any, .any, .any, .any, .any, .any, .any, .any, .any, .any, .any, .any, .any, .any, .any] H Q h 24 (by kernel_rfl) (by kernel_rfl)

/-- impl.LastPaidRank -/
def C17 : CC :=
 (.seq (.ops [⟨some 4, none, .mv (.const (.int .i64 0))⟩,
   ⟨some 5, none, .mv (.const (.int .i64 0))⟩])
 (.seq (.seq (.ops [⟨some 8, none, .mv (.tmp 0)⟩,
    ⟨some 9, none, .mv (.tmp 1)⟩,
    ⟨some 10, none, .call (.func 69) [(.tmp 8), (.tmp 9)]⟩,
    ⟨some 6, none, .mv (.tmp 10)⟩])
  (.seq (.ops [⟨some 11, none, .mv (.tmp 6)⟩,
    ⟨some 12, none, .bin .neq 0 (.tmp 11) (.const (.int .i64 0))⟩])
  (.cond (.tmp 12) (.seq (.ops [⟨some 13, none, .mv (.tmp 6)⟩,
     ⟨some 4, none, .mv (.const (.int .i64 0))⟩,
     ⟨some 5, none, .mv (.tmp 13)⟩])
   .ret)
  .skip)))
 (.seq (.ops [⟨some 7, none, .mv (.const (.int .i64 0))⟩])
 (.seq (.block 0 (.loop (.seq (.seq (.ops [⟨some 14, none, .mv (.tmp 7)⟩,
       ⟨some 15, none, .bin .lss 0 (.tmp 14) (.const (.int .i64 5))⟩,
       ⟨some 16, none, .mv (.tmp 15)⟩,
       ⟨some 17, some (16, true), .mv (.tmp 0)⟩,
       ⟨some 18, some (16, true), .mv (.tmp 7)⟩,
       ⟨some 19, some (16, true), .bin .add 0 (.tmp 18) (.const (.int .i64 1))⟩,
       ⟨some 20, some (16, true), .call (.func 70) [(.tmp 17), (.const (.int .i64 1)), (.tmp 19)]⟩,
       ⟨some 21, some (16, true), .mv (.tmp 1)⟩,
       ⟨some 22, some (16, true), .bin .leq 0 (.tmp 20) (.tmp 21)⟩,
       ⟨some 23, none, .pick (.tmp 16) (.tmp 22) (.const (.bool false))⟩])
     (.cond (.tmp 23) .skip
     (.exit 0)))
    (.block 1 (.ops [⟨some 24, none, .mv (.tmp 7)⟩,
      ⟨some 25, none, .bin .add 0 (.tmp 24) (.const (.int .i64 1))⟩,
      ⟨some 7, none, .mv (.tmp 25)⟩])))))
 (.seq (.ops [⟨some 26, none, .mv (.tmp 7)⟩,
   ⟨some 4, none, .mv (.tmp 26)⟩,
   ⟨some 5, none, .mv (.const (.int .i64 0))⟩])
 .ret)))))
theorem C17_ok : Try.f17.body.bind (comp Try.prog) = some C17 := by kernel_rfl
theorem C17_res : compRs Try.prog Try.f17.results.toList = some [.tmp 4, .tmp 5] := by kernel_rfl
theorem C17_nm : (Try.f17.name == "runtime.NumGoroutine") = false := by kernel_rfl
theorem C17_fn {a0 a1 : AV} {H : Heap} {Q : AV → Heap → Prop} (h : vc Try.prog C17 (vcEnd [.tmp 4, .tmp 5] Q) H [a0, a1, .any, .any, .any, .any, .any, .any, .any, .any, .any, .any, .any, .any, .any, .any, .any, .any, .any, .any, .any, .any, .any, .any, .any, .any, .any]) : Runs Try.prog 17 [a0, a1] H Q :=
  @fn_go Try.prog mixed 17 Try.f17 C17 [.tmp 4, .tmp 5] Try.func17 C17_ok C17_res C17_nm 27 Try.ntmps17 [a0, a1] [a0, a1, .any, .any, .any, .any, .any, .any, .any, .any, .any, .any, .any, .any, .any, .any, .any, .any, .any, .any, .any, .any, .any, .any, .any, .any, .any] H Q h 25 (by kernel_rfl) (by kernel_rfl)

/-- laws.eqDemand -/
def C71 : CC :=
 (.seq (.ops [⟨some 2, none, .box (.tmp 0)⟩,
   ⟨some 3, none, .box (.tmp 1)⟩,
   ⟨some 4, none, .mv (.const (.bool false))⟩])
 (.seq (.seq (.ops [⟨some 5, none, .fa 0 (.tmp 2)⟩,
    ⟨some 6, none, .load false 1 (.tmp 5)⟩,
    ⟨some 7, none, .fa 0 (.tmp 3)⟩,
    ⟨some 8, none, .load false 1 (.tmp 7)⟩,
    ⟨some 9, none, .bin .neq 0 (.tmp 6) (.tmp 8)⟩])
  (.cond (.tmp 9) (.seq (.ops [⟨some 4, none, .mv (.const (.bool false))⟩])
   .ret)
  .skip))
 (.seq (.seq (.ops [⟨some 10, none, .fa 1 (.tmp 2)⟩,
    ⟨some 11, none, .load false 1 (.tmp 10)⟩,
    ⟨some 12, none, .fa 1 (.tmp 3)⟩,
    ⟨some 13, none, .load false 1 (.tmp 12)⟩,
    ⟨some 14, none, .bin .neq 0 (.tmp 11) (.tmp 13)⟩])
  (.cond (.tmp 14) (.seq (.ops [⟨some 4, none, .mv (.const (.bool false))⟩])
   .ret)
  .skip))
 (.seq (.seq (.ops [⟨some 15, none, .fa 2 (.tmp 2)⟩,
    ⟨some 16, none, .load false 1 (.tmp 15)⟩,
    ⟨some 17, none, .fa 2 (.tmp 3)⟩,
    ⟨some 18, none, .load false 1 (.tmp 17)⟩,
    ⟨some 19, none, .bin .neq 0 (.tmp 16) (.tmp 18)⟩])
  (.cond (.tmp 19) (.seq (.ops [⟨some 4, none, .mv (.const (.bool false))⟩])
   .ret)
  .skip))
 (.seq (.ops [⟨some 4, none, .mv (.const (.bool true))⟩])
 .ret)))))
theorem C71_ok : Try.f71.body.bind (comp Try.prog) = some C71 := by kernel_rfl
theorem C71_res : compRs Try.prog Try.f71.results.toList = some [.tmp 4] := by kernel_rfl
theorem C71_nm : (Try.f71.name == "runtime.NumGoroutine") = false := by kernel_rfl
theorem C71_fn {a0 a1 : AV} {H : Heap} {Q : AV → Heap → Prop} (h : vc Try.prog C71 (vcEnd [.tmp 4] Q) H [a0, a1, .any, .any, .any, .any, .any, .any, .any, .any, .any, .any, .any, .any, .any, .any, .any, .any, .any, .any]) : Runs Try.prog 71 [a0, a1] H Q :=
  @fn_go Try.prog mixed 71 Try.f71 C71 [.tmp 4] Try.func71 C71_ok C71_res C71_nm 20 Try.ntmps71 [a0, a1] [a0, a1, .any, .any, .any, .any, .any, .any, .any, .any, .any, .any, .any, .any, .any, .any, .any, .any, .any, .any] H Q h 18 (by kernel_rfl) (by kernel_rfl)

/-- laws.eqDemandS -/
def C18 : CC :=
 (.seq (.ops [⟨some 4, none, .mv (.const (.bool false))⟩])
 (.seq (.seq (.ops [⟨some 6, none, .mv (.tmp 0)⟩,
    ⟨some 7, none, .len false (.tmp 6)⟩,
    ⟨some 8, none, .mv (.tmp 1)⟩,
    ⟨some 9, none, .len false (.tmp 8)⟩,
    ⟨some 10, none, .bin .neq 0 (.tmp 7) (.tmp 9)⟩])
  (.cond (.tmp 10) (.seq (.ops [⟨some 4, none, .mv (.const (.bool false))⟩])
   .ret)
  .skip))
 (.seq (.seq (.ops [⟨some 5, none, .mv (.const (.int .i64 0))⟩])
  (.block 0 (.loop (.seq (.seq (.ops [⟨some 11, none, .mv (.tmp 5)⟩,
       ⟨some 12, none, .mv (.tmp 0)⟩,
       ⟨some 13, none, .len false (.tmp 12)⟩,
       ⟨some 14, none, .bin .lss 0 (.tmp 11) (.tmp 13)⟩])
     (.cond (.tmp 14) .skip
     (.exit 0)))
    (.seq (.block 1 (.seq (.draw 10 [⟨some 17, none, .mv (.tmp 0)⟩,
        ⟨some 18, none, .mv (.tmp 5)⟩,
        ⟨some 19, none, .ia 3 (.tmp 17) (.tmp 18)⟩,
        ⟨some 20, none, .load true 3 (.tmp 19)⟩,
        ⟨some 21, none, .mv (.tmp 1)⟩,
        ⟨some 22, none, .mv (.tmp 5)⟩,
        ⟨some 23, none, .ia 3 (.tmp 21) (.tmp 22)⟩,
        ⟨some 24, none, .load true 3 (.tmp 23)⟩,
        ⟨some 25, none, .call (.func 71) [(.tmp 20), (.tmp 24)]⟩,
        ⟨some 26, none, .not (.tmp 25)⟩])
      (.cond (.tmp 26) (.seq (.ops [⟨some 4, none, .mv (.const (.bool false))⟩])
       .ret)
      .skip)))
    (.ops [⟨some 15, none, .mv (.tmp 5)⟩,
     ⟨some 16, none, .bin .add 0 (.tmp 15) (.const (.int .i64 1))⟩,
     ⟨some 5, none, .mv (.tmp 16)⟩]))))))
 (.seq (.ops [⟨some 4, none, .mv (.const (.bool true))⟩])
 .ret))))
theorem C18_ok : Try.f18.body.bind (comp Try.prog) = some C18 := by kernel_rfl
theorem C18_res : compRs Try.prog Try.f18.results.toList = some [.tmp 4] := by kernel_rfl
theorem C18_nm : (Try.f18.name == "runtime.NumGoroutine") = false := by kernel_rfl
theorem C18_fn {a0 a1 : AV} {H : Heap} {Q : AV → Heap → Prop} (h : vc Try.prog C18 (vcEnd [.tmp 4] Q) H [a0, a1, .any, .any, .any, .any, .any, .any, .any, .any, .any, .any, .any, .any, .any, .any, .any, .any, .any, .any, .any, .any, .any, .any, .any, .any, .any]) : Runs Try.prog 18 [a0, a1] H Q :=
  @fn_go Try.prog mixed 18 Try.f18 C18 [.tmp 4] Try.func18 C18_ok C18_res C18_nm 27 Try.ntmps18 [a0, a1] [a0, a1, .any, .any, .any, .any, .any, .any, .any, .any, .any, .any, .any, .any, .any, .any, .any, .any, .any, .any, .any, .any, .any, .any, .any, .any, .any] H Q h 25 (by kernel_rfl) (by kernel_rfl)

end Go.Proofs.Ytiomjlnojomneaa
