/- The code of the functions, in the form of our laws; each is the program's own, by the kernel. Written by a program of ours. -/
import Derived.Test.YtcbijbckbloadaaB0
import Derived.KernelRfl
namespace Go.Proofs.Ytcbijbckbloadaa
open Go.Abs

/-- slices.ContainsFunc[[]impl.Demand,impl.Demand] -/
def C122 : CC :=
 (.seq (.ops [⟨some 4, none, .mv (.const (.bool false))⟩])
 (.seq (.ops [⟨some 5, none, .mv (.tmp 0)⟩,
   ⟨some 6, none, .mv (.tmp 1)⟩,
   ⟨some 7, none, .call (.func 138) [(.tmp 5), (.tmp 6)]⟩,
   ⟨some 8, none, .bin .geq 0 (.tmp 7) (.const (.int .i64 0))⟩,
   ⟨some 4, none, .mv (.tmp 8)⟩])
 .ret))
theorem C122_ok : Try.f122.body.bind (comp Try.prog) = some C122 := by kernel_rfl
theorem C122_res : compRs Try.prog Try.f122.results.toList = some [.tmp 4] := by kernel_rfl
theorem C122_nm : (Try.f122.name == "runtime.NumGoroutine") = false := by kernel_rfl
theorem C122_fn {a0 a1 : AV} {H : Heap} {Q : AV → Heap → Prop} (h : vc Try.prog C122 (vcEnd [.tmp 4] Q) H [a0, a1, .any, .any, .any, .any, .any, .any, .any]) : Runs Try.prog 122 [a0, a1] H Q :=
  @fn_go Try.prog mixed 122 Try.f122 C122 [.tmp 4] Try.func122 C122_ok C122_res C122_nm 9 Try.ntmps122 [a0, a1] [a0, a1, .any, .any, .any, .any, .any, .any, .any] H Q h 7 (by kernel_rfl) (by kernel_rfl)

/-- impl.all[impl.Demand]$1 -/
def C123 : CC :=
 (.seq (.ops [⟨some 2, none, .box (.tmp 0)⟩,
   ⟨some 3, none, .mv (.const (.bool false))⟩])
 (.seq (.ops [⟨some 4, none, .load false 1 (.tmp 1)⟩,
   ⟨some 5, none, .load true 3 (.tmp 2)⟩,
   ⟨some 6, none, .call (.tmp 4) [(.tmp 5)]⟩,
   ⟨some 7, none, .not (.tmp 6)⟩,
   ⟨some 3, none, .mv (.tmp 7)⟩])
 .ret))
theorem C123_ok : Try.f123.body.bind (comp Try.prog) = some C123 := by kernel_rfl
theorem C123_res : compRs Try.prog Try.f123.results.toList = some [.tmp 3] := by kernel_rfl
theorem C123_nm : (Try.f123.name == "runtime.NumGoroutine") = false := by kernel_rfl
theorem C123_fn {a0 a1 : AV} {H : Heap} {Q : AV → Heap → Prop} (h : vc Try.prog C123 (vcEnd [.tmp 3] Q) H [a0, a1, .any, .any, .any, .any, .any, .any]) : Runs Try.prog 123 [a0, a1] H Q :=
  @fn_go Try.prog mixed 123 Try.f123 C123 [.tmp 3] Try.func123 C123_ok C123_res C123_nm 8 Try.ntmps123 [a0, a1] [a0, a1, .any, .any, .any, .any, .any, .any] H Q h 6 (by kernel_rfl) (by kernel_rfl)

/-- impl.all[impl.Demand] -/
def C74 : CC :=
 (.seq (.ops [⟨some 3, none, .box (.tmp 1)⟩,
   ⟨some 4, none, .mv (.const (.bool false))⟩])
 (.seq (.ops [⟨some 5, none, .mv (.tmp 0)⟩,
   ⟨some 6, none, .mkf 123 [(.tmp 3)]⟩,
   ⟨some 7, none, .call (.func 122) [(.tmp 5), (.tmp 6)]⟩,
   ⟨some 8, none, .not (.tmp 7)⟩,
   ⟨some 4, none, .mv (.tmp 8)⟩])
 .ret))
theorem C74_ok : Try.f74.body.bind (comp Try.prog) = some C74 := by kernel_rfl
theorem C74_res : compRs Try.prog Try.f74.results.toList = some [.tmp 4] := by kernel_rfl
theorem C74_nm : (Try.f74.name == "runtime.NumGoroutine") = false := by kernel_rfl
theorem C74_fn {a0 a1 : AV} {H : Heap} {Q : AV → Heap → Prop} (h : vc Try.prog C74 (vcEnd [.tmp 4] Q) H [a0, a1, .any, .any, .any, .any, .any, .any, .any]) : Runs Try.prog 74 [a0, a1] H Q :=
  @fn_go Try.prog mixed 74 Try.f74 C74 [.tmp 4] Try.func74 C74_ok C74_res C74_nm 9 Try.ntmps74 [a0, a1] [a0, a1, .any, .any, .any, .any, .any, .any, .any] H Q h 7 (by kernel_rfl) (by kernel_rfl)

/-- impl.isRank -/
def C76 : CC :=
 (.seq (.ops [⟨some 2, none, .mv (.const (.bool false))⟩])
 (.seq (.ops [⟨some 3, none, .mv (.tmp 0)⟩,
   ⟨some 4, none, .call (.func 69) [(.tmp 3), (.const (.int .i64 1)), (.const (.int .i64 5))]⟩,
   ⟨some 2, none, .mv (.tmp 4)⟩])
 .ret))
theorem C76_ok : Try.f76.body.bind (comp Try.prog) = some C76 := by kernel_rfl
theorem C76_res : compRs Try.prog Try.f76.results.toList = some [.tmp 2] := by kernel_rfl
theorem C76_nm : (Try.f76.name == "runtime.NumGoroutine") = false := by kernel_rfl
theorem C76_fn {a0 : AV} {H : Heap} {Q : AV → Heap → Prop} (h : vc Try.prog C76 (vcEnd [.tmp 2] Q) H [a0, .any, .any, .any, .any]) : Runs Try.prog 76 [a0] H Q :=
  @fn_go Try.prog mixed 76 Try.f76 C76 [.tmp 2] Try.func76 C76_ok C76_res C76_nm 5 Try.ntmps76 [a0] [a0, .any, .any, .any, .any] H Q h 4 (by kernel_rfl) (by kernel_rfl)

/-- impl.AreDemands$1 -/
def C75 : CC :=
 (.seq (.ops [⟨some 1, none, .box (.tmp 0)⟩,
   ⟨some 2, none, .mv (.const (.bool false))⟩])
 (.seq (.ops [⟨some 3, none, .fa 0 (.tmp 1)⟩,
   ⟨some 4, none, .load false 1 (.tmp 3)⟩,
   ⟨some 5, none, .call (.func 68) [(.tmp 4)]⟩,
   ⟨some 6, none, .mv (.tmp 5)⟩,
   ⟨some 7, some (6, true), .fa 1 (.tmp 1)⟩,
   ⟨some 8, some (6, true), .load false 1 (.tmp 7)⟩,
   ⟨some 9, some (6, true), .call (.func 76) [(.tmp 8)]⟩,
   ⟨some 10, none, .pick (.tmp 6) (.tmp 9) (.const (.bool false))⟩,
   ⟨some 11, none, .mv (.tmp 10)⟩,
   ⟨some 12, some (11, true), .fa 2 (.tmp 1)⟩,
   ⟨some 13, some (11, true), .load false 1 (.tmp 12)⟩,
   ⟨some 14, some (11, true), .call (.func 60) [(.tmp 13)]⟩,
   ⟨some 15, none, .pick (.tmp 11) (.tmp 14) (.const (.bool false))⟩,
   ⟨some 2, none, .mv (.tmp 15)⟩])
 .ret))
theorem C75_ok : Try.f75.body.bind (comp Try.prog) = some C75 := by kernel_rfl
theorem C75_res : compRs Try.prog Try.f75.results.toList = some [.tmp 2] := by kernel_rfl
theorem C75_nm : (Try.f75.name == "runtime.NumGoroutine") = false := by kernel_rfl
theorem C75_fn {a0 : AV} {H : Heap} {Q : AV → Heap → Prop} (h : vc Try.prog C75 (vcEnd [.tmp 2] Q) H [a0, .any, .any, .any, .any, .any, .any, .any, .any, .any, .any, .any, .any, .any, .any, .any]) : Runs Try.prog 75 [a0] H Q :=
  @fn_go Try.prog mixed 75 Try.f75 C75 [.tmp 2] Try.func75 C75_ok C75_res C75_nm 16 Try.ntmps75 [a0] [a0, .any, .any, .any, .any, .any, .any, .any, .any, .any, .any, .any, .any, .any, .any, .any] H Q h 15 (by kernel_rfl) (by kernel_rfl)

/-- impl.rising[impl.Demand] -/
def C77 : CC :=
 (.seq (.ops [⟨some 4, none, .mv (.const (.bool false))⟩])
 (.seq (.seq (.ops [⟨some 5, none, .mv (.const (.int .i64 1))⟩])
  (.block 0 (.loop (.seq (.seq (.ops [⟨some 6, none, .mv (.tmp 5)⟩,
       ⟨some 7, none, .mv (.tmp 0)⟩,
       ⟨some 8, none, .len false (.tmp 7)⟩,
       ⟨some 9, none, .bin .lss 0 (.tmp 6) (.tmp 8)⟩])
     (.cond (.tmp 9) .skip
     (.exit 0)))
    (.seq (.block 1 (.seq (.draw 12 [⟨some 12, none, .mv (.tmp 1)⟩,
        ⟨some 13, none, .mv (.tmp 0)⟩,
        ⟨some 14, none, .mv (.tmp 5)⟩,
        ⟨some 15, none, .bin .sub 0 (.tmp 14) (.const (.int .i64 1))⟩,
        ⟨some 16, none, .ia 3 (.tmp 13) (.tmp 15)⟩,
        ⟨some 17, none, .load true 3 (.tmp 16)⟩,
        ⟨some 18, none, .mv (.tmp 0)⟩,
        ⟨some 19, none, .mv (.tmp 5)⟩,
        ⟨some 20, none, .ia 3 (.tmp 18) (.tmp 19)⟩,
        ⟨some 21, none, .load true 3 (.tmp 20)⟩,
        ⟨some 22, none, .call (.tmp 12) [(.tmp 17), (.tmp 21)]⟩,
        ⟨some 23, none, .bin .geq 0 (.tmp 22) (.const (.int .i64 0))⟩])
      (.cond (.tmp 23) (.seq (.ops [⟨some 4, none, .mv (.const (.bool false))⟩])
       .ret)
      .skip)))
    (.ops [⟨some 10, none, .mv (.tmp 5)⟩,
     ⟨some 11, none, .bin .add 0 (.tmp 10) (.const (.int .i64 1))⟩,
     ⟨some 5, none, .mv (.tmp 11)⟩]))))))
 (.seq (.ops [⟨some 4, none, .mv (.const (.bool true))⟩])
 .ret)))
theorem C77_ok : Try.f77.body.bind (comp Try.prog) = some C77 := by kernel_rfl
theorem C77_res : compRs Try.prog Try.f77.results.toList = some [.tmp 4] := by kernel_rfl
theorem C77_nm : (Try.f77.name == "runtime.NumGoroutine") = false := by kernel_rfl
theorem C77_fn {a0 a1 : AV} {H : Heap} {Q : AV → Heap → Prop} (h : vc Try.prog C77 (vcEnd [.tmp 4] Q) H [a0, a1, .any, .any, .any, .any, .any, .any, .any, .any, .any, .any, .any, .any, .any, .any, .any, .any, .any, .any, .any, .any, .any, .any]) : Runs Try.prog 77 [a0, a1] H Q :=
  @fn_go Try.prog mixed 77 Try.f77 C77 [.tmp 4] Try.func77 C77_ok C77_res C77_nm 24 Try.ntmps77 [a0, a1] [a0, a1, .any, .any, .any, .any, .any, .any, .any, .any, .any, .any, .any, .any, .any, .any, .any, .any, .any, .any, .any, .any, .any, .any] H Q h 22 (by kernel_rfl) (by kernel_rfl)

/-- internal/bytealg.CompareString -/
def C124 : CC :=
 (.seq (.ops [⟨some 4, none, .mv (.const (.int .i64 0))⟩])
 (.seq (.ops [⟨some 5, none, .mv (.tmp 0)⟩,
   ⟨some 6, none, .mv (.tmp 1)⟩,
   ⟨some 7, none, .call (.func 139) [(.tmp 5), (.tmp 6)]⟩,
   ⟨some 4, none, .mv (.tmp 7)⟩])
 .ret))
theorem C124_ok : Try.f124.body.bind (comp Try.prog) = some C124 := by kernel_rfl
theorem C124_res : compRs Try.prog Try.f124.results.toList = some [.tmp 4] := by kernel_rfl
theorem C124_nm : (Try.f124.name == "runtime.NumGoroutine") = false := by kernel_rfl
theorem C124_fn {a0 a1 : AV} {H : Heap} {Q : AV → Heap → Prop} (h : vc Try.prog C124 (vcEnd [.tmp 4] Q) H [a0, a1, .any, .any, .any, .any, .any, .any]) : Runs Try.prog 124 [a0, a1] H Q :=
  @fn_go Try.prog mixed 124 Try.f124 C124 [.tmp 4] Try.func124 C124_ok C124_res C124_nm 8 Try.ntmps124 [a0, a1] [a0, a1, .any, .any, .any, .any, .any, .any] H Q h 6 (by kernel_rfl) (by kernel_rfl)

/-- strings.Compare -/
def C79 : CC :=
 (.seq (.ops [⟨some 4, none, .mv (.const (.int .i64 0))⟩])
 (.seq (.ops [⟨some 5, none, .mv (.tmp 0)⟩,
   ⟨some 6, none, .mv (.tmp 1)⟩,
   ⟨some 7, none, .call (.func 124) [(.tmp 5), (.tmp 6)]⟩,
   ⟨some 4, none, .mv (.tmp 7)⟩])
 .ret))
theorem C79_ok : Try.f79.body.bind (comp Try.prog) = some C79 := by kernel_rfl
theorem C79_res : compRs Try.prog Try.f79.results.toList = some [.tmp 4] := by kernel_rfl
theorem C79_nm : (Try.f79.name == "runtime.NumGoroutine") = false := by kernel_rfl
theorem C79_fn {a0 a1 : AV} {H : Heap} {Q : AV → Heap → Prop} (h : vc Try.prog C79 (vcEnd [.tmp 4] Q) H [a0, a1, .any, .any, .any, .any, .any, .any]) : Runs Try.prog 79 [a0, a1] H Q :=
  @fn_go Try.prog mixed 79 Try.f79 C79 [.tmp 4] Try.func79 C79_ok C79_res C79_nm 8 Try.ntmps79 [a0, a1] [a0, a1, .any, .any, .any, .any, .any, .any] H Q h 6 (by kernel_rfl) (by kernel_rfl)

/-- impl.AreDemands$2 -/
def C78 : CC :=
 (.seq (.ops [⟨some 2, none, .box (.tmp 0)⟩,
   ⟨some 3, none, .box (.tmp 1)⟩,
   ⟨some 4, none, .mv (.const (.int .i64 0))⟩])
 (.seq (.ops [⟨some 5, none, .fa 0 (.tmp 2)⟩,
   ⟨some 6, none, .load false 1 (.tmp 5)⟩,
   ⟨some 7, none, .fa 0 (.tmp 3)⟩,
   ⟨some 8, none, .load false 1 (.tmp 7)⟩,
   ⟨some 9, none, .call (.func 79) [(.tmp 6), (.tmp 8)]⟩,
   ⟨some 4, none, .mv (.tmp 9)⟩])
 .ret))
theorem C78_ok : Try.f78.body.bind (comp Try.prog) = some C78 := by kernel_rfl
theorem C78_res : compRs Try.prog Try.f78.results.toList = some [.tmp 4] := by kernel_rfl
theorem C78_nm : (Try.f78.name == "runtime.NumGoroutine") = false := by kernel_rfl
theorem C78_fn {a0 a1 : AV} {H : Heap} {Q : AV → Heap → Prop} (h : vc Try.prog C78 (vcEnd [.tmp 4] Q) H [a0, a1, .any, .any, .any, .any, .any, .any, .any, .any]) : Runs Try.prog 78 [a0, a1] H Q :=
  @fn_go Try.prog mixed 78 Try.f78 C78 [.tmp 4] Try.func78 C78_ok C78_res C78_nm 10 Try.ntmps78 [a0, a1] [a0, a1, .any, .any, .any, .any, .any, .any, .any, .any] H Q h 8 (by kernel_rfl) (by kernel_rfl)

/-- impl.AreDemands -/
def C25 : CC :=
 (.seq (.ops [⟨some 2, none, .mv (.const (.bool false))⟩])
 (.seq (.ops [⟨some 4, none, .mv (.tmp 0)⟩,
   ⟨some 5, none, .call (.func 74) [(.tmp 4), (.func 75)]⟩,
   ⟨some 3, none, .mv (.tmp 5)⟩])
 (.seq (.ops [⟨some 6, none, .mv (.tmp 0)⟩,
   ⟨some 7, none, .len false (.tmp 6)⟩,
   ⟨some 8, none, .bin .leq 0 (.tmp 7) (.const (.int .i64 12))⟩,
   ⟨some 9, none, .mv (.tmp 8)⟩,
   ⟨some 10, some (9, true), .mv (.tmp 3)⟩,
   ⟨some 11, none, .pick (.tmp 9) (.tmp 10) (.const (.bool false))⟩,
   ⟨some 12, none, .mv (.tmp 11)⟩,
   ⟨some 13, some (12, true), .mv (.tmp 0)⟩,
   ⟨some 14, some (12, true), .call (.func 77) [(.tmp 13), (.func 78)]⟩,
   ⟨some 15, none, .pick (.tmp 12) (.tmp 14) (.const (.bool false))⟩,
   ⟨some 2, none, .mv (.tmp 15)⟩])
 .ret)))
theorem C25_ok : Try.f25.body.bind (comp Try.prog) = some C25 := by kernel_rfl
theorem C25_res : compRs Try.prog Try.f25.results.toList = some [.tmp 2] := by kernel_rfl
theorem C25_nm : (Try.f25.name == "runtime.NumGoroutine") = false := by kernel_rfl
theorem C25_fn {a0 : AV} {H : Heap} {Q : AV → Heap → Prop} (h : vc Try.prog C25 (vcEnd [.tmp 2] Q) H [a0, .any, .any, .any, .any, .any, .any, .any, .any, .any, .any, .any, .any, .any, .any, .any]) : Runs Try.prog 25 [a0] H Q :=
  @fn_go Try.prog mixed 25 Try.f25 C25 [.tmp 2] Try.func25 C25_ok C25_res C25_nm 16 Try.ntmps25 [a0] [a0, .any, .any, .any, .any, .any, .any, .any, .any, .any, .any, .any, .any, .any, .any, .any] H Q h 15 (by kernel_rfl) (by kernel_rfl)

/-- laws.eqDemand -/
def C80 : CC :=
 (.seq (.ops [⟨some 2, none, .box (.tmp 0)⟩,
   ⟨some 3, none, .box (.tmp 1)⟩,
   ⟨some 4, none, .mv (.const (.bool false))⟩])
 (.seq (.seq (.ops [⟨some 5, none, .fa 0 (.tmp 2)⟩,
    ⟨some 6, none, .load false 1 (.tmp 5)⟩,
    ⟨some 7, none, .fa 0 (.tmp 3)⟩,
    ⟨some 8, none, .load false 1 (.tmp 7)⟩,
    ⟨some 9, none, .bin .neq 0 (.tmp 6) (.tmp 8)⟩])
  (.cond (.tmp 9) (.seq (.ops [⟨some 4, none, .mv (.const (.bool false))⟩])
   .ret)
  .skip))
 (.seq (.seq (.ops [⟨some 10, none, .fa 1 (.tmp 2)⟩,
    ⟨some 11, none, .load false 1 (.tmp 10)⟩,
    ⟨some 12, none, .fa 1 (.tmp 3)⟩,
    ⟨some 13, none, .load false 1 (.tmp 12)⟩,
    ⟨some 14, none, .bin .neq 0 (.tmp 11) (.tmp 13)⟩])
  (.cond (.tmp 14) (.seq (.ops [⟨some 4, none, .mv (.const (.bool false))⟩])
   .ret)
  .skip))
 (.seq (.seq (.ops [⟨some 15, none, .fa 2 (.tmp 2)⟩,
    ⟨some 16, none, .load false 1 (.tmp 15)⟩,
    ⟨some 17, none, .fa 2 (.tmp 3)⟩,
    ⟨some 18, none, .load false 1 (.tmp 17)⟩,
    ⟨some 19, none, .bin .neq 0 (.tmp 16) (.tmp 18)⟩])
  (.cond (.tmp 19) (.seq (.ops [⟨some 4, none, .mv (.const (.bool false))⟩])
   .ret)
  .skip))
 (.seq (.ops [⟨some 4, none, .mv (.const (.bool true))⟩])
 .ret)))))
theorem C80_ok : Try.f80.body.bind (comp Try.prog) = some C80 := by kernel_rfl
theorem C80_res : compRs Try.prog Try.f80.results.toList = some [.tmp 4] := by kernel_rfl
theorem C80_nm : (Try.f80.name == "runtime.NumGoroutine") = false := by kernel_rfl
theorem C80_fn {a0 a1 : AV} {H : Heap} {Q : AV → Heap → Prop} (h : vc Try.prog C80 (vcEnd [.tmp 4] Q) H [a0, a1, .any, .any, .any, .any, .any, .any, .any, .any, .any, .any, .any, .any, .any, .any, .any, .any, .any, .any]) : Runs Try.prog 80 [a0, a1] H Q :=
  @fn_go Try.prog mixed 80 Try.f80 C80 [.tmp 4] Try.func80 C80_ok C80_res C80_nm 20 Try.ntmps80 [a0, a1] [a0, a1, .any, .any, .any, .any, .any, .any, .any, .any, .any, .any, .any, .any, .any, .any, .any, .any, .any, .any] H Q h 18 (by kernel_rfl) (by kernel_rfl)

/-- laws.eqDemandS -/
def C26 : CC :=
 (.seq (.ops [⟨some 4, none, .mv (.const (.bool false))⟩])
 (.seq (.seq (.ops [⟨some 6, none, .mv (.tmp 0)⟩,
    ⟨some 7, none, .len false (.tmp 6)⟩,
    ⟨some 8, none, .mv (.tmp 1)⟩,
    ⟨some 9, none, .len false (.tmp 8)⟩,
    ⟨some 10, none, .bin .neq 0 (.tmp 7) (.tmp 9)⟩])
  (.cond (.tmp 10) (.seq (.ops [⟨some 4, none, .mv (.const (.bool false))⟩])
   .ret)
  .skip))
 (.seq (.seq (.ops [⟨some 5, none, .mv (.const (.int .i64 0))⟩])
  (.block 0 (.loop (.seq (.seq (.ops [⟨some 11, none, .mv (.tmp 5)⟩,
       ⟨some 12, none, .mv (.tmp 0)⟩,
       ⟨some 13, none, .len false (.tmp 12)⟩,
       ⟨some 14, none, .bin .lss 0 (.tmp 11) (.tmp 13)⟩])
     (.cond (.tmp 14) .skip
     (.exit 0)))
    (.seq (.block 1 (.seq (.draw 10 [⟨some 17, none, .mv (.tmp 0)⟩,
        ⟨some 18, none, .mv (.tmp 5)⟩,
        ⟨some 19, none, .ia 3 (.tmp 17) (.tmp 18)⟩,
        ⟨some 20, none, .load true 3 (.tmp 19)⟩,
        ⟨some 21, none, .mv (.tmp 1)⟩,
        ⟨some 22, none, .mv (.tmp 5)⟩,
        ⟨some 23, none, .ia 3 (.tmp 21) (.tmp 22)⟩,
        ⟨some 24, none, .load true 3 (.tmp 23)⟩,
        ⟨some 25, none, .call (.func 80) [(.tmp 20), (.tmp 24)]⟩,
        ⟨some 26, none, .not (.tmp 25)⟩])
      (.cond (.tmp 26) (.seq (.ops [⟨some 4, none, .mv (.const (.bool false))⟩])
       .ret)
      .skip)))
    (.ops [⟨some 15, none, .mv (.tmp 5)⟩,
     ⟨some 16, none, .bin .add 0 (.tmp 15) (.const (.int .i64 1))⟩,
     ⟨some 5, none, .mv (.tmp 16)⟩]))))))
 (.seq (.ops [⟨some 4, none, .mv (.const (.bool true))⟩])
 .ret))))
theorem C26_ok : Try.f26.body.bind (comp Try.prog) = some C26 := by kernel_rfl
theorem C26_res : compRs Try.prog Try.f26.results.toList = some [.tmp 4] := by kernel_rfl
theorem C26_nm : (Try.f26.name == "runtime.NumGoroutine") = false := by kernel_rfl
theorem C26_fn {a0 a1 : AV} {H : Heap} {Q : AV → Heap → Prop} (h : vc Try.prog C26 (vcEnd [.tmp 4] Q) H [a0, a1, .any, .any, .any, .any, .any, .any, .any, .any, .any, .any, .any, .any, .any, .any, .any, .any, .any, .any, .any, .any, .any, .any, .any, .any, .any]) : Runs Try.prog 26 [a0, a1] H Q :=
  @fn_go Try.prog mixed 26 Try.f26 C26 [.tmp 4] Try.func26 C26_ok C26_res C26_nm 27 Try.ntmps26 [a0, a1] [a0, a1, .any, .any, .any, .any, .any, .any, .any, .any, .any, .any, .any, .any, .any, .any, .any, .any, .any, .any, .any, .any, .any, .any, .any, .any, .any] H Q h 25 (by kernel_rfl) (by kernel_rfl)

/-- laws.FnExactAreDemands -/
def C5 : CC :=
 (.seq (.ops [⟨some 2, none, .mv (.const (.bool false))⟩])
 (.seq (.ops [⟨some 3, none, .mv (.const (.int .i64 1048576))⟩])
 (.seq (.ops [⟨some 7, none, .mv (.tmp 0)⟩,
   ⟨some 8, none, .mv (.tmp 3)⟩,
   ⟨some 9, none, .call (.func 22) [(.tmp 7), (.tmp 8)]⟩,
   ⟨some 3, none, .mv (.tmp 9)⟩])
 (.seq (.seq (.ops [⟨some 10, none, .mv (.tmp 3)⟩,
    ⟨some 11, none, .bin .lss 0 (.tmp 10) (.const (.int .i64 0))⟩])
  (.cond (.tmp 11) (.seq (.ops [⟨some 2, none, .mv (.const (.bool true))⟩])
   .ret)
  .skip))
 (.seq (.ops [⟨some 12, none, .mv (.tmp 0)⟩,
   ⟨some 13, none, .call (.func 24) [(.tmp 12)]⟩,
   ⟨some 14, none, .call (.func 23) [(.tmp 13)]⟩,
   ⟨some 4, none, .mv (.tmp 14)⟩])
 (.seq (.ops [⟨some 15, none, .mv (.tmp 0)⟩,
   ⟨some 16, none, .call (.func 24) [(.tmp 15)]⟩,
   ⟨some 5, none, .mv (.tmp 16)⟩])
 (.seq (.ops [⟨some 17, none, .mv (.tmp 5)⟩,
   ⟨some 18, none, .call (.func 25) [(.tmp 17)]⟩,
   ⟨some 6, none, .mv (.tmp 18)⟩])
 (.seq (.seq (.ops [⟨some 19, none, .mv (.tmp 6)⟩,
    ⟨some 20, none, .mv (.tmp 4)⟩,
    ⟨some 21, none, .bin .neq 1 (.tmp 19) (.tmp 20)⟩])
  (.cond (.tmp 21) (.seq (.ops [⟨some 2, none, .mv (.const (.bool false))⟩])
   .ret)
  .skip))
 (.seq (.seq (.ops [⟨some 22, none, .mv (.tmp 5)⟩,
    ⟨some 23, none, .mv (.tmp 0)⟩,
    ⟨some 24, none, .call (.func 24) [(.tmp 23)]⟩,
    ⟨some 25, none, .call (.func 26) [(.tmp 22), (.tmp 24)]⟩,
    ⟨some 26, none, .not (.tmp 25)⟩])
  (.cond (.tmp 26) (.seq (.ops [⟨some 2, none, .mv (.const (.bool false))⟩])
   .ret)
  .skip))
 (.seq (.ops [⟨some 2, none, .mv (.const (.bool true))⟩])
 .ret))))))))))
theorem C5_ok : Try.f5.body.bind (comp Try.prog) = some C5 := by kernel_rfl
theorem C5_res : compRs Try.prog Try.f5.results.toList = some [.tmp 2] := by kernel_rfl
theorem C5_nm : (Try.f5.name == "runtime.NumGoroutine") = false := by kernel_rfl
theorem C5_fn {a0 : AV} {H : Heap} {Q : AV → Heap → Prop} (h : vc Try.prog C5 (vcEnd [.tmp 2] Q) H [a0, .any, .any, .any, .any, .any, .any, .any, .any, .any, .any, .any, .any, .any, .any, .any, .any, .any, .any, .any, .any, .any, .any, .any, .any, .any, .any]) : Runs Try.prog 5 [a0] H Q :=
  @fn_go Try.prog mixed 5 Try.f5 C5 [.tmp 2] Try.func5 C5_ok C5_res C5_nm 27 Try.ntmps5 [a0] [a0, .any, .any, .any, .any, .any, .any, .any, .any, .any, .any, .any, .any, .any, .any, .any, .any, .any, .any, .any, .any, .any, .any, .any, .any, .any, .any] H Q h 26 (by kernel_rfl) (by kernel_rfl)

/-- laws.szPolicy -/
def C81 : CC :=
 (.seq (.ops [⟨some 2, none, .box (.tmp 0)⟩,
   ⟨some 4, none, .mv (.const (.int .i64 0))⟩])
 (.seq (.ops [⟨some 5, none, .mv (.tmp 1)⟩,
   ⟨some 6, none, .fa 0 (.tmp 2)⟩,
   ⟨some 7, none, .load false 1 (.tmp 6)⟩,
   ⟨some 8, none, .len true (.tmp 7)⟩,
   ⟨some 9, none, .bin .sub 0 (.tmp 5) (.tmp 8)⟩,
   ⟨some 1, none, .mv (.tmp 9)⟩])
 (.seq (.seq (.ops [⟨some 10, none, .mv (.tmp 1)⟩,
    ⟨some 11, none, .bin .lss 0 (.tmp 10) (.const (.int .i64 0))⟩])
  (.cond (.tmp 11) (.seq (.ops [⟨some 4, none, .mv (.const (.int .i64 (-1)))⟩])
   .ret)
  .skip))
 (.seq (.ops [⟨some 12, none, .mv (.tmp 1)⟩,
   ⟨some 13, none, .fa 1 (.tmp 2)⟩,
   ⟨some 14, none, .load false 1 (.tmp 13)⟩,
   ⟨some 15, none, .len true (.tmp 14)⟩,
   ⟨some 16, none, .bin .sub 0 (.tmp 12) (.tmp 15)⟩,
   ⟨some 1, none, .mv (.tmp 16)⟩])
 (.seq (.seq (.ops [⟨some 17, none, .mv (.tmp 1)⟩,
    ⟨some 18, none, .bin .lss 0 (.tmp 17) (.const (.int .i64 0))⟩])
  (.cond (.tmp 18) (.seq (.ops [⟨some 4, none, .mv (.const (.int .i64 (-1)))⟩])
   .ret)
  .skip))
 (.seq (.ops [⟨some 19, none, .mv (.tmp 1)⟩,
   ⟨some 4, none, .mv (.tmp 19)⟩])
 .ret))))))
theorem C81_ok : Try.f81.body.bind (comp Try.prog) = some C81 := by kernel_rfl
theorem C81_res : compRs Try.prog Try.f81.results.toList = some [.tmp 4] := by kernel_rfl
theorem C81_nm : (Try.f81.name == "runtime.NumGoroutine") = false := by kernel_rfl
theorem C81_fn {a0 a1 : AV} {H : Heap} {Q : AV → Heap → Prop} (h : vc Try.prog C81 (vcEnd [.tmp 4] Q) H [a0, a1, .any, .any, .any, .any, .any, .any, .any, .any, .any, .any, .any, .any, .any, .any, .any, .any, .any, .any]) : Runs Try.prog 81 [a0, a1] H Q :=
  @fn_go Try.prog mixed 81 Try.f81 C81 [.tmp 4] Try.func81 C81_ok C81_res C81_nm 20 Try.ntmps81 [a0, a1] [a0, a1, .any, .any, .any, .any, .any, .any, .any, .any, .any, .any, .any, .any, .any, .any, .any, .any, .any, .any] H Q h 18 (by kernel_rfl) (by kernel_rfl)

/-- laws.szPolicyS -/
def C27 : CC :=
 (.seq (.ops [⟨some 4, none, .mv (.const (.int .i64 0))⟩])
 (.seq (.ops [⟨some 6, none, .mv (.tmp 1)⟩,
   ⟨some 7, none, .mv (.tmp 0)⟩,
   ⟨some 8, none, .len false (.tmp 7)⟩,
   ⟨some 9, none, .bin .sub 0 (.tmp 6) (.tmp 8)⟩,
   ⟨some 1, none, .mv (.tmp 9)⟩])
 (.seq (.seq (.ops [⟨some 10, none, .mv (.tmp 1)⟩,
    ⟨some 11, none, .bin .lss 0 (.tmp 10) (.const (.int .i64 0))⟩])
  (.cond (.tmp 11) (.seq (.ops [⟨some 4, none, .mv (.const (.int .i64 (-1)))⟩])
   .ret)
  .skip))
 (.seq (.seq (.ops [⟨some 5, none, .mv (.const (.int .i64 0))⟩])
  (.block 0 (.loop (.seq (.seq (.ops [⟨some 12, none, .mv (.tmp 5)⟩,
       ⟨some 13, none, .mv (.tmp 0)⟩,
       ⟨some 14, none, .len false (.tmp 13)⟩,
       ⟨some 15, none, .bin .lss 0 (.tmp 12) (.tmp 14)⟩])
     (.cond (.tmp 15) .skip
     (.exit 0)))
    (.seq (.block 1 (.seq (.ops [⟨some 18, none, .mv (.tmp 0)⟩,
        ⟨some 19, none, .mv (.tmp 5)⟩,
        ⟨some 20, none, .ia 3 (.tmp 18) (.tmp 19)⟩,
        ⟨some 21, none, .load true 3 (.tmp 20)⟩,
        ⟨some 22, none, .mv (.tmp 1)⟩,
        ⟨some 23, none, .call (.func 81) [(.tmp 21), (.tmp 22)]⟩,
        ⟨some 1, none, .mv (.tmp 23)⟩])
      (.seq (.ops [⟨some 24, none, .mv (.tmp 1)⟩,
        ⟨some 25, none, .bin .lss 0 (.tmp 24) (.const (.int .i64 0))⟩])
      (.cond (.tmp 25) (.seq (.ops [⟨some 4, none, .mv (.const (.int .i64 (-1)))⟩])
       .ret)
      .skip))))
    (.ops [⟨some 16, none, .mv (.tmp 5)⟩,
     ⟨some 17, none, .bin .add 0 (.tmp 16) (.const (.int .i64 1))⟩,
     ⟨some 5, none, .mv (.tmp 17)⟩]))))))
 (.seq (.ops [⟨some 26, none, .mv (.tmp 1)⟩,
   ⟨some 4, none, .mv (.tmp 26)⟩])
 .ret)))))
theorem C27_ok : Try.f27.body.bind (comp Try.prog) = some C27 := by kernel_rfl
theorem C27_res : compRs Try.prog Try.f27.results.toList = some [.tmp 4] := by kernel_rfl
theorem C27_nm : (Try.f27.name == "runtime.NumGoroutine") = false := by kernel_rfl
theorem C27_fn {a0 a1 : AV} {H : Heap} {Q : AV → Heap → Prop} (h : vc Try.prog C27 (vcEnd [.tmp 4] Q) H [a0, a1, .any, .any, .any, .any, .any, .any, .any, .any, .any, .any, .any, .any, .any, .any, .any, .any, .any, .any, .any, .any, .any, .any, .any, .any, .any]) : Runs Try.prog 27 [a0, a1] H Q :=
  @fn_go Try.prog mixed 27 Try.f27 C27 [.tmp 4] Try.func27 C27_ok C27_res C27_nm 27 Try.ntmps27 [a0, a1] [a0, a1, .any, .any, .any, .any, .any, .any, .any, .any, .any, .any, .any, .any, .any, .any, .any, .any, .any, .any, .any, .any, .any, .any, .any, .any, .any] H Q h 25 (by kernel_rfl) (by kernel_rfl)

/-- spec.IsCover -/
def C28 : CC :=
 (.seq (.ops [⟨some 2, none, .mv (.const (.bool false))⟩])
 (.seq (.seq (.ops [⟨some 3, none, .mv (.const (.int .i64 0))⟩])
  (.block 0 (.loop (.seq (.seq (.ops [⟨some 5, none, .mv (.tmp 3)⟩,
       ⟨some 6, none, .mv (.tmp 0)⟩,
       ⟨some 7, none, .len false (.tmp 6)⟩,
       ⟨some 8, none, .bin .lss 0 (.tmp 5) (.tmp 7)⟩])
     (.cond (.tmp 8) .skip
     (.exit 0)))
    (.seq (.block 1 (.seq (.ops [⟨some 11, none, .mv (.tmp 0)⟩,
        ⟨some 12, none, .mv (.tmp 3)⟩,
        ⟨some 13, none, .ia 3 (.tmp 11) (.tmp 12)⟩,
        ⟨some 14, none, .load true 3 (.tmp 13)⟩,
        ⟨some 4, none, .alloc [.string ⟨#[]⟩, .string ⟨#[]⟩, .int .i64 0]⟩,
        ⟨none, none, .store 3 (.tmp 4) (.tmp 14)⟩])
      (.seq (.draw 31 [⟨some 15, none, .fa 0 (.tmp 4)⟩,
        ⟨some 16, none, .load false 1 (.tmp 15)⟩,
        ⟨some 17, none, .call (.func 63) [(.tmp 16)]⟩,
        ⟨some 18, none, .not (.tmp 17)⟩,
        ⟨some 19, none, .mv (.tmp 18)⟩,
        ⟨some 20, some (19, false), .fa 1 (.tmp 4)⟩,
        ⟨some 21, some (19, false), .load false 1 (.tmp 20)⟩,
        ⟨some 22, some (19, false), .call (.func 63) [(.tmp 21)]⟩,
        ⟨some 23, some (19, false), .not (.tmp 22)⟩,
        ⟨some 24, none, .pick (.tmp 19) (.const (.bool true)) (.tmp 23)⟩,
        ⟨some 25, none, .mv (.tmp 24)⟩,
        ⟨some 26, some (25, false), .fa 2 (.tmp 4)⟩,
        ⟨some 27, some (25, false), .load false 1 (.tmp 26)⟩,
        ⟨some 28, some (25, false), .call (.func 58) [(.tmp 27)]⟩,
        ⟨some 29, some (25, false), .not (.tmp 28)⟩,
        ⟨some 30, none, .pick (.tmp 25) (.const (.bool true)) (.tmp 29)⟩,
        ⟨some 31, none, .mv (.tmp 30)⟩,
        ⟨some 32, some (31, false), .mv (.tmp 3)⟩,
        ⟨some 33, some (31, false), .bin .gtr 0 (.tmp 32) (.const (.int .i64 0))⟩,
        ⟨some 34, some (31, false), .mv (.tmp 33)⟩,
        ⟨some 35, some (34, true), .mv (.tmp 0)⟩,
        ⟨some 36, some (34, true), .mv (.tmp 3)⟩,
        ⟨some 37, some (34, true), .bin .sub 0 (.tmp 36) (.const (.int .i64 1))⟩,
        ⟨some 38, some (34, true), .ia 3 (.tmp 35) (.tmp 37)⟩,
        ⟨some 39, some (34, true), .fa 0 (.tmp 38)⟩,
        ⟨some 40, some (34, true), .load false 1 (.tmp 39)⟩,
        ⟨some 41, some (34, true), .fa 0 (.tmp 4)⟩,
        ⟨some 42, some (34, true), .load false 1 (.tmp 41)⟩,
        ⟨some 43, some (34, true), .bin .geq 0 (.tmp 40) (.tmp 42)⟩,
        ⟨some 44, some (31, false), .pick (.tmp 34) (.tmp 43) (.const (.bool false))⟩,
        ⟨some 45, none, .pick (.tmp 31) (.const (.bool true)) (.tmp 44)⟩])
      (.cond (.tmp 45) (.seq (.ops [⟨some 2, none, .mv (.const (.bool false))⟩])
       .ret)
      .skip))))
    (.ops [⟨some 9, none, .mv (.tmp 3)⟩,
     ⟨some 10, none, .bin .add 0 (.tmp 9) (.const (.int .i64 1))⟩,
     ⟨some 3, none, .mv (.tmp 10)⟩]))))))
 (.seq (.ops [⟨some 46, none, .mv (.tmp 0)⟩,
   ⟨some 47, none, .len false (.tmp 46)⟩,
   ⟨some 48, none, .bin .leq 0 (.tmp 47) (.const (.int .i64 10))⟩,
   ⟨some 2, none, .mv (.tmp 48)⟩])
 .ret)))
theorem C28_ok : Try.f28.body.bind (comp Try.prog) = some C28 := by kernel_rfl
theorem C28_res : compRs Try.prog Try.f28.results.toList = some [.tmp 2] := by kernel_rfl
theorem C28_nm : (Try.f28.name == "runtime.NumGoroutine") = false := by kernel_rfl
theorem C28_fn {a0 : AV} {H : Heap} {Q : AV → Heap → Prop} (h : vc Try.prog C28 (vcEnd [.tmp 2] Q) H [a0, .any, .any, .any, .any, .any, .any, .any, .any, .any, .any, .any, .any, .any, .any, .any, .any, .any, .any, .any, .any, .any, .any, .any, .any, .any, .any, .any, .any, .any, .any, .any, .any, .any, .any, .any, .any, .any, .any, .any, .any, .any, .any, .any, .any, .any, .any, .any, .any]) : Runs Try.prog 28 [a0] H Q :=
  @fn_go Try.prog mixed 28 Try.f28 C28 [.tmp 2] Try.func28 C28_ok C28_res C28_nm 49 Try.ntmps28 [a0] [a0, .any, .any, .any, .any, .any, .any, .any, .any, .any, .any, .any, .any, .any, .any, .any, .any, .any, .any, .any, .any, .any, .any, .any, .any, .any, .any, .any, .any, .any, .any, .any, .any, .any, .any, .any, .any, .any, .any, .any, .any, .any, .any, .any, .any, .any, .any, .any, .any] H Q h 48 (by kernel_rfl) (by kernel_rfl)

/-- laws.toPolicy -/
def C82 : CC :=
 (.seq (.ops [⟨some 1, none, .box (.tmp 0)⟩,
   ⟨some 2, none, .alloc [.string ⟨#[]⟩, .string ⟨#[]⟩, .int .i64 0]⟩])
 (.seq (.ops [⟨some 3, none, .alloc [.string ⟨#[]⟩, .string ⟨#[]⟩, .int .i64 0]⟩])
 (.seq (.ops [⟨some 4, none, .fa 0 (.tmp 1)⟩,
   ⟨some 5, none, .load false 1 (.tmp 4)⟩,
   ⟨some 6, none, .fa 0 (.tmp 3)⟩,
   ⟨none, none, .store 1 (.tmp 6) (.tmp 5)⟩])
 (.seq (.ops [⟨some 7, none, .fa 1 (.tmp 1)⟩,
   ⟨some 8, none, .load false 1 (.tmp 7)⟩,
   ⟨some 9, none, .fa 1 (.tmp 3)⟩,
   ⟨none, none, .store 1 (.tmp 9) (.tmp 8)⟩])
 (.seq (.ops [⟨some 10, none, .fa 2 (.tmp 1)⟩,
   ⟨some 11, none, .load false 1 (.tmp 10)⟩,
   ⟨some 12, none, .fa 2 (.tmp 3)⟩,
   ⟨none, none, .store 1 (.tmp 12) (.tmp 11)⟩])
 (.seq (.ops [⟨some 13, none, .load true 3 (.tmp 3)⟩,
   ⟨none, none, .store 3 (.tmp 2) (.tmp 13)⟩])
 .ret))))))
theorem C82_ok : Try.f82.body.bind (comp Try.prog) = some C82 := by kernel_rfl
theorem C82_res : compRs Try.prog Try.f82.results.toList = some [.cell true 3 2] := by kernel_rfl
theorem C82_nm : (Try.f82.name == "runtime.NumGoroutine") = false := by kernel_rfl
theorem C82_fn {a0 : AV} {H : Heap} {Q : AV → Heap → Prop} (h : vc Try.prog C82 (vcEnd [.cell true 3 2] Q) H [a0, .any, .any, .any, .any, .any, .any, .any, .any, .any, .any, .any, .any, .any]) : Runs Try.prog 82 [a0] H Q :=
  @fn_go Try.prog mixed 82 Try.f82 C82 [.cell true 3 2] Try.func82 C82_ok C82_res C82_nm 14 Try.ntmps82 [a0] [a0, .any, .any, .any, .any, .any, .any, .any, .any, .any, .any, .any, .any, .any] H Q h 13 (by kernel_rfl) (by kernel_rfl)

/-- laws.toPolicyS -/
def C29 : CC :=
 (.seq (.ops [⟨some 2, none, .mv (.const (.slice none 0 0))⟩])
 (.seq (.ops [⟨some 5, none, .mv (.tmp 0)⟩,
   ⟨some 6, none, .len false (.tmp 5)⟩,
   ⟨some 7, none, .mks [.string ⟨#[]⟩, .string ⟨#[]⟩, .int .i64 0] 40 (.tmp 6)⟩,
   ⟨some 3, none, .mv (.tmp 7)⟩])
 (.seq (.seq (.ops [⟨some 4, none, .mv (.const (.int .i64 0))⟩])
  (.block 0 (.loop (.seq (.seq (.ops [⟨some 8, none, .mv (.tmp 4)⟩,
       ⟨some 9, none, .mv (.tmp 0)⟩,
       ⟨some 10, none, .len false (.tmp 9)⟩,
       ⟨some 11, none, .bin .lss 0 (.tmp 8) (.tmp 10)⟩])
     (.cond (.tmp 11) .skip
     (.exit 0)))
    (.seq (.block 1 (.ops [⟨some 14, none, .mv (.tmp 3)⟩,
       ⟨some 15, none, .mv (.tmp 4)⟩,
       ⟨some 16, none, .mv (.tmp 0)⟩,
       ⟨some 17, none, .mv (.tmp 4)⟩,
       ⟨some 18, none, .ia 3 (.tmp 16) (.tmp 17)⟩,
       ⟨some 19, none, .load true 3 (.tmp 18)⟩,
       ⟨some 20, none, .call (.func 82) [(.tmp 19)]⟩,
       ⟨some 21, none, .ia 3 (.tmp 14) (.tmp 15)⟩,
       ⟨none, none, .store 3 (.tmp 21) (.tmp 20)⟩]))
    (.ops [⟨some 12, none, .mv (.tmp 4)⟩,
     ⟨some 13, none, .bin .add 0 (.tmp 12) (.const (.int .i64 1))⟩,
     ⟨some 4, none, .mv (.tmp 13)⟩]))))))
 (.seq (.ops [⟨some 22, none, .mv (.tmp 3)⟩,
   ⟨some 2, none, .mv (.tmp 22)⟩])
 .ret))))
theorem C29_ok : Try.f29.body.bind (comp Try.prog) = some C29 := by kernel_rfl
theorem C29_res : compRs Try.prog Try.f29.results.toList = some [.tmp 2] := by kernel_rfl
theorem C29_nm : (Try.f29.name == "runtime.NumGoroutine") = false := by kernel_rfl
theorem C29_fn {a0 : AV} {H : Heap} {Q : AV → Heap → Prop} (h : vc Try.prog C29 (vcEnd [.tmp 2] Q) H [a0, .any, .any, .any, .any, .any, .any, .any, .any, .any, .any, .any, .any, .any, .any, .any, .any, .any, .any, .any, .any, .any, .any]) : Runs Try.prog 29 [a0] H Q :=
  @fn_go Try.prog mixed 29 Try.f29 C29 [.tmp 2] Try.func29 C29_ok C29_res C29_nm 23 Try.ntmps29 [a0] [a0, .any, .any, .any, .any, .any, .any, .any, .any, .any, .any, .any, .any, .any, .any, .any, .any, .any, .any, .any, .any, .any, .any] H Q h 22 (by kernel_rfl) (by kernel_rfl)

/-- slices.IndexFunc[[]impl.Policy,impl.Policy] -/
def C140 : CC :=
 (.seq (.ops [⟨some 4, none, .mv (.const (.int .i64 0))⟩])
 (.seq (.seq (.ops [⟨some 6, none, .mv (.tmp 0)⟩,
    ⟨some 7, none, .len false (.tmp 6)⟩,
    ⟨some 8, none, .mv (.const (.int .i64 0))⟩])
  (.block 0 (.loop (.seq (.ops [⟨some 9, none, .bin .lss 0 (.tmp 8) (.tmp 7)⟩])
    (.seq (.cond (.tmp 9) .skip
     (.exit 0))
    (.seq (.block 1 (.seq (.ops [⟨some 10, none, .mv (.tmp 8)⟩,
        ⟨some 5, none, .mv (.tmp 10)⟩])
      (.seq (.ops [⟨some 11, none, .mv (.tmp 1)⟩,
        ⟨some 12, none, .mv (.tmp 0)⟩,
        ⟨some 13, none, .mv (.tmp 5)⟩,
        ⟨some 14, none, .ia 3 (.tmp 12) (.tmp 13)⟩,
        ⟨some 15, none, .load true 3 (.tmp 14)⟩,
        ⟨some 16, none, .call (.tmp 11) [(.tmp 15)]⟩])
      (.cond (.tmp 16) (.seq (.ops [⟨some 17, none, .mv (.tmp 5)⟩,
         ⟨some 4, none, .mv (.tmp 17)⟩])
       .ret)
      .skip))))
    (.ops [⟨some 18, none, .bin .add 0 (.tmp 8) (.const (.int .i64 1))⟩,
     ⟨some 8, none, .mv (.tmp 18)⟩])))))))
 (.seq (.ops [⟨some 4, none, .mv (.const (.int .i64 (-1)))⟩])
 .ret)))
theorem C140_ok : Try.f140.body.bind (comp Try.prog) = some C140 := by kernel_rfl
theorem C140_res : compRs Try.prog Try.f140.results.toList = some [.tmp 4] := by kernel_rfl
theorem C140_nm : (Try.f140.name == "runtime.NumGoroutine") = false := by kernel_rfl
theorem C140_fn {a0 a1 : AV} {H : Heap} {Q : AV → Heap → Prop} (h : vc Try.prog C140 (vcEnd [.tmp 4] Q) H [a0, a1, .any, .any, .any, .any, .any, .any, .any, .any, .any, .any, .any, .any, .any, .any, .any, .any, .any]) : Runs Try.prog 140 [a0, a1] H Q :=
  @fn_go Try.prog mixed 140 Try.f140 C140 [.tmp 4] Try.func140 C140_ok C140_res C140_nm 19 Try.ntmps140 [a0, a1] [a0, a1, .any, .any, .any, .any, .any, .any, .any, .any, .any, .any, .any, .any, .any, .any, .any, .any, .any] H Q h 17 (by kernel_rfl) (by kernel_rfl)

/-- slices.ContainsFunc[[]impl.Policy,impl.Policy] -/
def C125 : CC :=
 (.seq (.ops [⟨some 4, none, .mv (.const (.bool false))⟩])
 (.seq (.ops [⟨some 5, none, .mv (.tmp 0)⟩,
   ⟨some 6, none, .mv (.tmp 1)⟩,
   ⟨some 7, none, .call (.func 140) [(.tmp 5), (.tmp 6)]⟩,
   ⟨some 8, none, .bin .geq 0 (.tmp 7) (.const (.int .i64 0))⟩,
   ⟨some 4, none, .mv (.tmp 8)⟩])
 .ret))
theorem C125_ok : Try.f125.body.bind (comp Try.prog) = some C125 := by kernel_rfl
theorem C125_res : compRs Try.prog Try.f125.results.toList = some [.tmp 4] := by kernel_rfl
theorem C125_nm : (Try.f125.name == "runtime.NumGoroutine") = false := by kernel_rfl
theorem C125_fn {a0 a1 : AV} {H : Heap} {Q : AV → Heap → Prop} (h : vc Try.prog C125 (vcEnd [.tmp 4] Q) H [a0, a1, .any, .any, .any, .any, .any, .any, .any]) : Runs Try.prog 125 [a0, a1] H Q :=
  @fn_go Try.prog mixed 125 Try.f125 C125 [.tmp 4] Try.func125 C125_ok C125_res C125_nm 9 Try.ntmps125 [a0, a1] [a0, a1, .any, .any, .any, .any, .any, .any, .any] H Q h 7 (by kernel_rfl) (by kernel_rfl)

/-- impl.all[impl.Policy]$1 -/
def C126 : CC :=
 (.seq (.ops [⟨some 2, none, .box (.tmp 0)⟩,
   ⟨some 3, none, .mv (.const (.bool false))⟩])
 (.seq (.ops [⟨some 4, none, .load false 1 (.tmp 1)⟩,
   ⟨some 5, none, .load true 3 (.tmp 2)⟩,
   ⟨some 6, none, .call (.tmp 4) [(.tmp 5)]⟩,
   ⟨some 7, none, .not (.tmp 6)⟩,
   ⟨some 3, none, .mv (.tmp 7)⟩])
 .ret))
theorem C126_ok : Try.f126.body.bind (comp Try.prog) = some C126 := by kernel_rfl
theorem C126_res : compRs Try.prog Try.f126.results.toList = some [.tmp 3] := by kernel_rfl
theorem C126_nm : (Try.f126.name == "runtime.NumGoroutine") = false := by kernel_rfl
theorem C126_fn {a0 a1 : AV} {H : Heap} {Q : AV → Heap → Prop} (h : vc Try.prog C126 (vcEnd [.tmp 3] Q) H [a0, a1, .any, .any, .any, .any, .any, .any]) : Runs Try.prog 126 [a0, a1] H Q :=
  @fn_go Try.prog mixed 126 Try.f126 C126 [.tmp 3] Try.func126 C126_ok C126_res C126_nm 8 Try.ntmps126 [a0, a1] [a0, a1, .any, .any, .any, .any, .any, .any] H Q h 6 (by kernel_rfl) (by kernel_rfl)

/-- impl.all[impl.Policy] -/
def C83 : CC :=
 (.seq (.ops [⟨some 3, none, .box (.tmp 1)⟩,
   ⟨some 4, none, .mv (.const (.bool false))⟩])
 (.seq (.ops [⟨some 5, none, .mv (.tmp 0)⟩,
   ⟨some 6, none, .mkf 126 [(.tmp 3)]⟩,
   ⟨some 7, none, .call (.func 125) [(.tmp 5), (.tmp 6)]⟩,
   ⟨some 8, none, .not (.tmp 7)⟩,
   ⟨some 4, none, .mv (.tmp 8)⟩])
 .ret))
theorem C83_ok : Try.f83.body.bind (comp Try.prog) = some C83 := by kernel_rfl
theorem C83_res : compRs Try.prog Try.f83.results.toList = some [.tmp 4] := by kernel_rfl
theorem C83_nm : (Try.f83.name == "runtime.NumGoroutine") = false := by kernel_rfl
theorem C83_fn {a0 a1 : AV} {H : Heap} {Q : AV → Heap → Prop} (h : vc Try.prog C83 (vcEnd [.tmp 4] Q) H [a0, a1, .any, .any, .any, .any, .any, .any, .any]) : Runs Try.prog 83 [a0, a1] H Q :=
  @fn_go Try.prog mixed 83 Try.f83 C83 [.tmp 4] Try.func83 C83_ok C83_res C83_nm 9 Try.ntmps83 [a0, a1] [a0, a1, .any, .any, .any, .any, .any, .any, .any] H Q h 7 (by kernel_rfl) (by kernel_rfl)

/-- impl.isPolicy -/
def C84 : CC :=
 (.seq (.ops [⟨some 1, none, .box (.tmp 0)⟩,
   ⟨some 2, none, .mv (.const (.bool false))⟩])
 (.seq (.ops [⟨some 3, none, .fa 0 (.tmp 1)⟩,
   ⟨some 4, none, .load false 1 (.tmp 3)⟩,
   ⟨some 5, none, .call (.func 68) [(.tmp 4)]⟩,
   ⟨some 6, none, .mv (.tmp 5)⟩,
   ⟨some 7, some (6, true), .fa 1 (.tmp 1)⟩,
   ⟨some 8, some (6, true), .load false 1 (.tmp 7)⟩,
   ⟨some 9, some (6, true), .call (.func 68) [(.tmp 8)]⟩,
   ⟨some 10, none, .pick (.tmp 6) (.tmp 9) (.const (.bool false))⟩,
   ⟨some 11, none, .mv (.tmp 10)⟩,
   ⟨some 12, some (11, true), .fa 2 (.tmp 1)⟩,
   ⟨some 13, some (11, true), .load false 1 (.tmp 12)⟩,
   ⟨some 14, some (11, true), .call (.func 60) [(.tmp 13)]⟩,
   ⟨some 15, none, .pick (.tmp 11) (.tmp 14) (.const (.bool false))⟩,
   ⟨some 2, none, .mv (.tmp 15)⟩])
 .ret))
theorem C84_ok : Try.f84.body.bind (comp Try.prog) = some C84 := by kernel_rfl
theorem C84_res : compRs Try.prog Try.f84.results.toList = some [.tmp 2] := by kernel_rfl
theorem C84_nm : (Try.f84.name == "runtime.NumGoroutine") = false := by kernel_rfl
theorem C84_fn {a0 : AV} {H : Heap} {Q : AV → Heap → Prop} (h : vc Try.prog C84 (vcEnd [.tmp 2] Q) H [a0, .any, .any, .any, .any, .any, .any, .any, .any, .any, .any, .any, .any, .any, .any, .any]) : Runs Try.prog 84 [a0] H Q :=
  @fn_go Try.prog mixed 84 Try.f84 C84 [.tmp 2] Try.func84 C84_ok C84_res C84_nm 16 Try.ntmps84 [a0] [a0, .any, .any, .any, .any, .any, .any, .any, .any, .any, .any, .any, .any, .any, .any, .any] H Q h 15 (by kernel_rfl) (by kernel_rfl)

/-- impl.rising[impl.Policy] -/
def C85 : CC :=
 (.seq (.ops [⟨some 4, none, .mv (.const (.bool false))⟩])
 (.seq (.seq (.ops [⟨some 5, none, .mv (.const (.int .i64 1))⟩])
  (.block 0 (.loop (.seq (.seq (.ops [⟨some 6, none, .mv (.tmp 5)⟩,
       ⟨some 7, none, .mv (.tmp 0)⟩,
       ⟨some 8, none, .len false (.tmp 7)⟩,
       ⟨some 9, none, .bin .lss 0 (.tmp 6) (.tmp 8)⟩])
     (.cond (.tmp 9) .skip
     (.exit 0)))
    (.seq (.block 1 (.seq (.draw 12 [⟨some 12, none, .mv (.tmp 1)⟩,
        ⟨some 13, none, .mv (.tmp 0)⟩,
        ⟨some 14, none, .mv (.tmp 5)⟩,
        ⟨some 15, none, .bin .sub 0 (.tmp 14) (.const (.int .i64 1))⟩,
        ⟨some 16, none, .ia 3 (.tmp 13) (.tmp 15)⟩,
        ⟨some 17, none, .load true 3 (.tmp 16)⟩,
        ⟨some 18, none, .mv (.tmp 0)⟩,
        ⟨some 19, none, .mv (.tmp 5)⟩,
        ⟨some 20, none, .ia 3 (.tmp 18) (.tmp 19)⟩,
        ⟨some 21, none, .load true 3 (.tmp 20)⟩,
        ⟨some 22, none, .call (.tmp 12) [(.tmp 17), (.tmp 21)]⟩,
        ⟨some 23, none, .bin .geq 0 (.tmp 22) (.const (.int .i64 0))⟩])
      (.cond (.tmp 23) (.seq (.ops [⟨some 4, none, .mv (.const (.bool false))⟩])
       .ret)
      .skip)))
    (.ops [⟨some 10, none, .mv (.tmp 5)⟩,
     ⟨some 11, none, .bin .add 0 (.tmp 10) (.const (.int .i64 1))⟩,
     ⟨some 5, none, .mv (.tmp 11)⟩]))))))
 (.seq (.ops [⟨some 4, none, .mv (.const (.bool true))⟩])
 .ret)))
theorem C85_ok : Try.f85.body.bind (comp Try.prog) = some C85 := by kernel_rfl
theorem C85_res : compRs Try.prog Try.f85.results.toList = some [.tmp 4] := by kernel_rfl
theorem C85_nm : (Try.f85.name == "runtime.NumGoroutine") = false := by kernel_rfl
theorem C85_fn {a0 a1 : AV} {H : Heap} {Q : AV → Heap → Prop} (h : vc Try.prog C85 (vcEnd [.tmp 4] Q) H [a0, a1, .any, .any, .any, .any, .any, .any, .any, .any, .any, .any, .any, .any, .any, .any, .any, .any, .any, .any, .any, .any, .any, .any]) : Runs Try.prog 85 [a0, a1] H Q :=
  @fn_go Try.prog mixed 85 Try.f85 C85 [.tmp 4] Try.func85 C85_ok C85_res C85_nm 24 Try.ntmps85 [a0, a1] [a0, a1, .any, .any, .any, .any, .any, .any, .any, .any, .any, .any, .any, .any, .any, .any, .any, .any, .any, .any, .any, .any, .any, .any] H Q h 22 (by kernel_rfl) (by kernel_rfl)

/-- impl.comparePolicies -/
def C86 : CC :=
 (.seq (.ops [⟨some 2, none, .box (.tmp 0)⟩,
   ⟨some 3, none, .box (.tmp 1)⟩,
   ⟨some 4, none, .mv (.const (.int .i64 0))⟩])
 (.seq (.ops [⟨some 5, none, .fa 0 (.tmp 2)⟩,
   ⟨some 6, none, .load false 1 (.tmp 5)⟩,
   ⟨some 7, none, .fa 0 (.tmp 3)⟩,
   ⟨some 8, none, .load false 1 (.tmp 7)⟩,
   ⟨some 9, none, .call (.func 79) [(.tmp 6), (.tmp 8)]⟩,
   ⟨some 4, none, .mv (.tmp 9)⟩])
 .ret))
theorem C86_ok : Try.f86.body.bind (comp Try.prog) = some C86 := by kernel_rfl
theorem C86_res : compRs Try.prog Try.f86.results.toList = some [.tmp 4] := by kernel_rfl
theorem C86_nm : (Try.f86.name == "runtime.NumGoroutine") = false := by kernel_rfl
theorem C86_fn {a0 a1 : AV} {H : Heap} {Q : AV → Heap → Prop} (h : vc Try.prog C86 (vcEnd [.tmp 4] Q) H [a0, a1, .any, .any, .any, .any, .any, .any, .any, .any]) : Runs Try.prog 86 [a0, a1] H Q :=
  @fn_go Try.prog mixed 86 Try.f86 C86 [.tmp 4] Try.func86 C86_ok C86_res C86_nm 10 Try.ntmps86 [a0, a1] [a0, a1, .any, .any, .any, .any, .any, .any, .any, .any] H Q h 8 (by kernel_rfl) (by kernel_rfl)

/-- impl.IsCover -/
def C30 : CC :=
 (.seq (.ops [⟨some 2, none, .mv (.const (.bool false))⟩])
 (.seq (.ops [⟨some 3, none, .mv (.tmp 0)⟩,
   ⟨some 4, none, .len false (.tmp 3)⟩,
   ⟨some 5, none, .bin .leq 0 (.tmp 4) (.const (.int .i64 10))⟩,
   ⟨some 6, none, .mv (.tmp 5)⟩,
   ⟨some 7, some (6, true), .mv (.tmp 0)⟩,
   ⟨some 8, some (6, true), .call (.func 83) [(.tmp 7), (.func 84)]⟩,
   ⟨some 9, none, .pick (.tmp 6) (.tmp 8) (.const (.bool false))⟩,
   ⟨some 10, none, .mv (.tmp 9)⟩,
   ⟨some 11, some (10, true), .mv (.tmp 0)⟩,
   ⟨some 12, some (10, true), .call (.func 85) [(.tmp 11), (.func 86)]⟩,
   ⟨some 13, none, .pick (.tmp 10) (.tmp 12) (.const (.bool false))⟩,
   ⟨some 2, none, .mv (.tmp 13)⟩])
 .ret))
theorem C30_ok : Try.f30.body.bind (comp Try.prog) = some C30 := by kernel_rfl
theorem C30_res : compRs Try.prog Try.f30.results.toList = some [.tmp 2] := by kernel_rfl
theorem C30_nm : (Try.f30.name == "runtime.NumGoroutine") = false := by kernel_rfl
theorem C30_fn {a0 : AV} {H : Heap} {Q : AV → Heap → Prop} (h : vc Try.prog C30 (vcEnd [.tmp 2] Q) H [a0, .any, .any, .any, .any, .any, .any, .any, .any, .any, .any, .any, .any, .any]) : Runs Try.prog 30 [a0] H Q :=
  @fn_go Try.prog mixed 30 Try.f30 C30 [.tmp 2] Try.func30 C30_ok C30_res C30_nm 14 Try.ntmps30 [a0] [a0, .any, .any, .any, .any, .any, .any, .any, .any, .any, .any, .any, .any, .any] H Q h 13 (by kernel_rfl) (by kernel_rfl)

/-- laws.eqPolicy -/
def C87 : CC :=
 (.seq (.ops [⟨some 2, none, .box (.tmp 0)⟩,
   ⟨some 3, none, .box (.tmp 1)⟩,
   ⟨some 4, none, .mv (.const (.bool false))⟩])
 (.seq (.seq (.ops [⟨some 5, none, .fa 0 (.tmp 2)⟩,
    ⟨some 6, none, .load false 1 (.tmp 5)⟩,
    ⟨some 7, none, .fa 0 (.tmp 3)⟩,
    ⟨some 8, none, .load false 1 (.tmp 7)⟩,
    ⟨some 9, none, .bin .neq 0 (.tmp 6) (.tmp 8)⟩])
  (.cond (.tmp 9) (.seq (.ops [⟨some 4, none, .mv (.const (.bool false))⟩])
   .ret)
  .skip))
 (.seq (.seq (.ops [⟨some 10, none, .fa 1 (.tmp 2)⟩,
    ⟨some 11, none, .load false 1 (.tmp 10)⟩,
    ⟨some 12, none, .fa 1 (.tmp 3)⟩,
    ⟨some 13, none, .load false 1 (.tmp 12)⟩,
    ⟨some 14, none, .bin .neq 0 (.tmp 11) (.tmp 13)⟩])
  (.cond (.tmp 14) (.seq (.ops [⟨some 4, none, .mv (.const (.bool false))⟩])
   .ret)
  .skip))
 (.seq (.seq (.ops [⟨some 15, none, .fa 2 (.tmp 2)⟩,
    ⟨some 16, none, .load false 1 (.tmp 15)⟩,
    ⟨some 17, none, .fa 2 (.tmp 3)⟩,
    ⟨some 18, none, .load false 1 (.tmp 17)⟩,
    ⟨some 19, none, .bin .neq 0 (.tmp 16) (.tmp 18)⟩])
  (.cond (.tmp 19) (.seq (.ops [⟨some 4, none, .mv (.const (.bool false))⟩])
   .ret)
  .skip))
 (.seq (.ops [⟨some 4, none, .mv (.const (.bool true))⟩])
 .ret)))))
theorem C87_ok : Try.f87.body.bind (comp Try.prog) = some C87 := by kernel_rfl
theorem C87_res : compRs Try.prog Try.f87.results.toList = some [.tmp 4] := by kernel_rfl
theorem C87_nm : (Try.f87.name == "runtime.NumGoroutine") = false := by kernel_rfl
theorem C87_fn {a0 a1 : AV} {H : Heap} {Q : AV → Heap → Prop} (h : vc Try.prog C87 (vcEnd [.tmp 4] Q) H [a0, a1, .any, .any, .any, .any, .any, .any, .any, .any, .any, .any, .any, .any, .any, .any, .any, .any, .any, .any]) : Runs Try.prog 87 [a0, a1] H Q :=
  @fn_go Try.prog mixed 87 Try.f87 C87 [.tmp 4] Try.func87 C87_ok C87_res C87_nm 20 Try.ntmps87 [a0, a1] [a0, a1, .any, .any, .any, .any, .any, .any, .any, .any, .any, .any, .any, .any, .any, .any, .any, .any, .any, .any] H Q h 18 (by kernel_rfl) (by kernel_rfl)

/-- laws.eqPolicyS -/
def C31 : CC :=
 (.seq (.ops [⟨some 4, none, .mv (.const (.bool false))⟩])
 (.seq (.seq (.ops [⟨some 6, none, .mv (.tmp 0)⟩,
    ⟨some 7, none, .len false (.tmp 6)⟩,
    ⟨some 8, none, .mv (.tmp 1)⟩,
    ⟨some 9, none, .len false (.tmp 8)⟩,
    ⟨some 10, none, .bin .neq 0 (.tmp 7) (.tmp 9)⟩])
  (.cond (.tmp 10) (.seq (.ops [⟨some 4, none, .mv (.const (.bool false))⟩])
   .ret)
  .skip))
 (.seq (.seq (.ops [⟨some 5, none, .mv (.const (.int .i64 0))⟩])
  (.block 0 (.loop (.seq (.seq (.ops [⟨some 11, none, .mv (.tmp 5)⟩,
       ⟨some 12, none, .mv (.tmp 0)⟩,
       ⟨some 13, none, .len false (.tmp 12)⟩,
       ⟨some 14, none, .bin .lss 0 (.tmp 11) (.tmp 13)⟩])
     (.cond (.tmp 14) .skip
     (.exit 0)))
    (.seq (.block 1 (.seq (.draw 10 [⟨some 17, none, .mv (.tmp 0)⟩,
        ⟨some 18, none, .mv (.tmp 5)⟩,
        ⟨some 19, none, .ia 3 (.tmp 17) (.tmp 18)⟩,
        ⟨some 20, none, .load true 3 (.tmp 19)⟩,
        ⟨some 21, none, .mv (.tmp 1)⟩,
        ⟨some 22, none, .mv (.tmp 5)⟩,
        ⟨some 23, none, .ia 3 (.tmp 21) (.tmp 22)⟩,
        ⟨some 24, none, .load true 3 (.tmp 23)⟩,
        ⟨some 25, none, .call (.func 87) [(.tmp 20), (.tmp 24)]⟩,
        ⟨some 26, none, .not (.tmp 25)⟩])
      (.cond (.tmp 26) (.seq (.ops [⟨some 4, none, .mv (.const (.bool false))⟩])
       .ret)
      .skip)))
    (.ops [⟨some 15, none, .mv (.tmp 5)⟩,
     ⟨some 16, none, .bin .add 0 (.tmp 15) (.const (.int .i64 1))⟩,
     ⟨some 5, none, .mv (.tmp 16)⟩]))))))
 (.seq (.ops [⟨some 4, none, .mv (.const (.bool true))⟩])
 .ret))))
theorem C31_ok : Try.f31.body.bind (comp Try.prog) = some C31 := by kernel_rfl
theorem C31_res : compRs Try.prog Try.f31.results.toList = some [.tmp 4] := by kernel_rfl
theorem C31_nm : (Try.f31.name == "runtime.NumGoroutine") = false := by kernel_rfl
theorem C31_fn {a0 a1 : AV} {H : Heap} {Q : AV → Heap → Prop} (h : vc Try.prog C31 (vcEnd [.tmp 4] Q) H [a0, a1, .any, .any, .any, .any, .any, .any, .any, .any, .any, .any, .any, .any, .any, .any, .any, .any, .any, .any, .any, .any, .any, .any, .any, .any, .any]) : Runs Try.prog 31 [a0, a1] H Q :=
  @fn_go Try.prog mixed 31 Try.f31 C31 [.tmp 4] Try.func31 C31_ok C31_res C31_nm 27 Try.ntmps31 [a0, a1] [a0, a1, .any, .any, .any, .any, .any, .any, .any, .any, .any, .any, .any, .any, .any, .any, .any, .any, .any, .any, .any, .any, .any, .any, .any, .any, .any] H Q h 25 (by kernel_rfl) (by kernel_rfl)

/-- laws.FnExactIsCover -/
def C6 : CC :=
 (.seq (.ops [⟨some 2, none, .mv (.const (.bool false))⟩])
 (.seq (.ops [⟨some 3, none, .mv (.const (.int .i64 1048576))⟩])
 (.seq (.ops [⟨some 7, none, .mv (.tmp 0)⟩,
   ⟨some 8, none, .mv (.tmp 3)⟩,
   ⟨some 9, none, .call (.func 27) [(.tmp 7), (.tmp 8)]⟩,
   ⟨some 3, none, .mv (.tmp 9)⟩])
 (.seq (.seq (.ops [⟨some 10, none, .mv (.tmp 3)⟩,
    ⟨some 11, none, .bin .lss 0 (.tmp 10) (.const (.int .i64 0))⟩])
  (.cond (.tmp 11) (.seq (.ops [⟨some 2, none, .mv (.const (.bool true))⟩])
   .ret)
  .skip))
 (.seq (.ops [⟨some 12, none, .mv (.tmp 0)⟩,
   ⟨some 13, none, .call (.func 29) [(.tmp 12)]⟩,
   ⟨some 14, none, .call (.func 28) [(.tmp 13)]⟩,
   ⟨some 4, none, .mv (.tmp 14)⟩])
 (.seq (.ops [⟨some 15, none, .mv (.tmp 0)⟩,
   ⟨some 16, none, .call (.func 29) [(.tmp 15)]⟩,
   ⟨some 5, none, .mv (.tmp 16)⟩])
 (.seq (.ops [⟨some 17, none, .mv (.tmp 5)⟩,
   ⟨some 18, none, .call (.func 30) [(.tmp 17)]⟩,
   ⟨some 6, none, .mv (.tmp 18)⟩])
 (.seq (.seq (.ops [⟨some 19, none, .mv (.tmp 6)⟩,
    ⟨some 20, none, .mv (.tmp 4)⟩,
    ⟨some 21, none, .bin .neq 1 (.tmp 19) (.tmp 20)⟩])
  (.cond (.tmp 21) (.seq (.ops [⟨some 2, none, .mv (.const (.bool false))⟩])
   .ret)
  .skip))
 (.seq (.seq (.ops [⟨some 22, none, .mv (.tmp 5)⟩,
    ⟨some 23, none, .mv (.tmp 0)⟩,
    ⟨some 24, none, .call (.func 29) [(.tmp 23)]⟩,
    ⟨some 25, none, .call (.func 31) [(.tmp 22), (.tmp 24)]⟩,
    ⟨some 26, none, .not (.tmp 25)⟩])
  (.cond (.tmp 26) (.seq (.ops [⟨some 2, none, .mv (.const (.bool false))⟩])
   .ret)
  .skip))
 (.seq (.ops [⟨some 2, none, .mv (.const (.bool true))⟩])
 .ret))))))))))
theorem C6_ok : Try.f6.body.bind (comp Try.prog) = some C6 := by kernel_rfl
theorem C6_res : compRs Try.prog Try.f6.results.toList = some [.tmp 2] := by kernel_rfl
theorem C6_nm : (Try.f6.name == "runtime.NumGoroutine") = false := by kernel_rfl
theorem C6_fn {a0 : AV} {H : Heap} {Q : AV → Heap → Prop} (h : vc Try.prog C6 (vcEnd [.tmp 2] Q) H [a0, .any, .any, .any, .any, .any, .any, .any, .any, .any, .any, .any, .any, .any, .any, .any, .any, .any, .any, .any, .any, .any, .any, .any, .any, .any, .any]) : Runs Try.prog 6 [a0] H Q :=
  @fn_go Try.prog mixed 6 Try.f6 C6 [.tmp 2] Try.func6 C6_ok C6_res C6_nm 27 Try.ntmps6 [a0] [a0, .any, .any, .any, .any, .any, .any, .any, .any, .any, .any, .any, .any, .any, .any, .any, .any, .any, .any, .any, .any, .any, .any, .any, .any, .any, .any] H Q h 26 (by kernel_rfl) (by kernel_rfl)

/-- laws.szClaim -/
def C88 : CC :=
 (.seq (.ops [⟨some 2, none, .box (.tmp 0)⟩,
   ⟨some 4, none, .mv (.const (.int .i64 0))⟩])
 (.seq (.ops [⟨some 5, none, .mv (.tmp 1)⟩,
   ⟨some 6, none, .fa 0 (.tmp 2)⟩,
   ⟨some 7, none, .load false 1 (.tmp 6)⟩,
   ⟨some 8, none, .len true (.tmp 7)⟩,
   ⟨some 9, none, .bin .sub 0 (.tmp 5) (.tmp 8)⟩,
   ⟨some 1, none, .mv (.tmp 9)⟩])
 (.seq (.seq (.ops [⟨some 10, none, .mv (.tmp 1)⟩,
    ⟨some 11, none, .bin .lss 0 (.tmp 10) (.const (.int .i64 0))⟩])
  (.cond (.tmp 11) (.seq (.ops [⟨some 4, none, .mv (.const (.int .i64 (-1)))⟩])
   .ret)
  .skip))
 (.seq (.ops [⟨some 12, none, .mv (.tmp 1)⟩,
   ⟨some 4, none, .mv (.tmp 12)⟩])
 .ret))))
theorem C88_ok : Try.f88.body.bind (comp Try.prog) = some C88 := by kernel_rfl
theorem C88_res : compRs Try.prog Try.f88.results.toList = some [.tmp 4] := by kernel_rfl
theorem C88_nm : (Try.f88.name == "runtime.NumGoroutine") = false := by kernel_rfl
theorem C88_fn {a0 a1 : AV} {H : Heap} {Q : AV → Heap → Prop} (h : vc Try.prog C88 (vcEnd [.tmp 4] Q) H [a0, a1, .any, .any, .any, .any, .any, .any, .any, .any, .any, .any, .any]) : Runs Try.prog 88 [a0, a1] H Q :=
  @fn_go Try.prog mixed 88 Try.f88 C88 [.tmp 4] Try.func88 C88_ok C88_res C88_nm 13 Try.ntmps88 [a0, a1] [a0, a1, .any, .any, .any, .any, .any, .any, .any, .any, .any, .any, .any] H Q h 11 (by kernel_rfl) (by kernel_rfl)

/-- laws.szClaimS -/
def C32 : CC :=
 (.seq (.ops [⟨some 4, none, .mv (.const (.int .i64 0))⟩])
 (.seq (.ops [⟨some 6, none, .mv (.tmp 1)⟩,
   ⟨some 7, none, .mv (.tmp 0)⟩,
   ⟨some 8, none, .len false (.tmp 7)⟩,
   ⟨some 9, none, .bin .sub 0 (.tmp 6) (.tmp 8)⟩,
   ⟨some 1, none, .mv (.tmp 9)⟩])
 (.seq (.seq (.ops [⟨some 10, none, .mv (.tmp 1)⟩,
    ⟨some 11, none, .bin .lss 0 (.tmp 10) (.const (.int .i64 0))⟩])
  (.cond (.tmp 11) (.seq (.ops [⟨some 4, none, .mv (.const (.int .i64 (-1)))⟩])
   .ret)
  .skip))
 (.seq (.seq (.ops [⟨some 5, none, .mv (.const (.int .i64 0))⟩])
  (.block 0 (.loop (.seq (.seq (.ops [⟨some 12, none, .mv (.tmp 5)⟩,
       ⟨some 13, none, .mv (.tmp 0)⟩,
       ⟨some 14, none, .len false (.tmp 13)⟩,
       ⟨some 15, none, .bin .lss 0 (.tmp 12) (.tmp 14)⟩])
     (.cond (.tmp 15) .skip
     (.exit 0)))
    (.seq (.block 1 (.seq (.ops [⟨some 18, none, .mv (.tmp 0)⟩,
        ⟨some 19, none, .mv (.tmp 5)⟩,
        ⟨some 20, none, .ia 5 (.tmp 18) (.tmp 19)⟩,
        ⟨some 21, none, .load true 5 (.tmp 20)⟩,
        ⟨some 22, none, .mv (.tmp 1)⟩,
        ⟨some 23, none, .call (.func 88) [(.tmp 21), (.tmp 22)]⟩,
        ⟨some 1, none, .mv (.tmp 23)⟩])
      (.seq (.ops [⟨some 24, none, .mv (.tmp 1)⟩,
        ⟨some 25, none, .bin .lss 0 (.tmp 24) (.const (.int .i64 0))⟩])
      (.cond (.tmp 25) (.seq (.ops [⟨some 4, none, .mv (.const (.int .i64 (-1)))⟩])
       .ret)
      .skip))))
    (.ops [⟨some 16, none, .mv (.tmp 5)⟩,
     ⟨some 17, none, .bin .add 0 (.tmp 16) (.const (.int .i64 1))⟩,
     ⟨some 5, none, .mv (.tmp 17)⟩]))))))
 (.seq (.ops [⟨some 26, none, .mv (.tmp 1)⟩,
   ⟨some 4, none, .mv (.tmp 26)⟩])
 .ret)))))
theorem C32_ok : Try.f32.body.bind (comp Try.prog) = some C32 := by kernel_rfl
theorem C32_res : compRs Try.prog Try.f32.results.toList = some [.tmp 4] := by kernel_rfl
theorem C32_nm : (Try.f32.name == "runtime.NumGoroutine") = false := by kernel_rfl
theorem C32_fn {a0 a1 : AV} {H : Heap} {Q : AV → Heap → Prop} (h : vc Try.prog C32 (vcEnd [.tmp 4] Q) H [a0, a1, .any, .any, .any, .any, .any, .any, .any, .any, .any, .any, .any, .any, .any, .any, .any, .any, .any, .any, .any, .any, .any, .any, .any, .any, .any]) : Runs Try.prog 32 [a0, a1] H Q :=
  @fn_go Try.prog mixed 32 Try.f32 C32 [.tmp 4] Try.func32 C32_ok C32_res C32_nm 27 Try.ntmps32 [a0, a1] [a0, a1, .any, .any, .any, .any, .any, .any, .any, .any, .any, .any, .any, .any, .any, .any, .any, .any, .any, .any, .any, .any, .any, .any, .any, .any, .any] H Q h 25 (by kernel_rfl) (by kernel_rfl)

end Go.Proofs.Ytcbijbckbloadaa
